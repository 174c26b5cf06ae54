import Derived.Test.YtolikaginhjbhaaGreatDoorFd
import Derived.Test.YtolikaginhjbhaaGreatDoorGc
/- Types of expressions. No program in sight. -/
namespace Go.Proofs.YtolikaginhjbhaaGreatDoor
open Go.RowKit Go.Pen

/-- one type of two -/
def fitsT (a b : Int) : Option Int := if a = 1 then some b else if b = 1 ∨ a = b then some a else none
/-- one type of many -/
def allT : Int → List Int → Option Int
  | k, [] => some k
  | k, x :: l => match fitsT k x with
    | none => none
    | some k' => allT k' l
def asksT (o : Int) : Int := if o = 3 ∨ o = 4 ∨ o = 5 ∨ o = 6 ∨ o = 7 ∨ o = 8 then 3 else if o = 9 ∨ o = 10 then 4 else if o = 17 ∨ o = 18 ∨ o = 19 then 2 else 1
def givesT (o : Int) : Int := if o = 3 ∨ o = 4 ∨ o = 5 ∨ o = 6 ∨ o = 7 ∨ o = 8 ∨ o = 10 then 3 else if o = 9 then 4 else 2
/-- the conditions' types, the values' -/
def whensT : List Int → List Int
  | c :: _ :: l => c :: whensT l
  | _ => []
def thensT : List Int → List Int
  | _ :: v :: l => v :: thensT l
  | [v] => [v]
  | [] => []
def restT (o : Int) (l : List Int) : Option Int :=
  if o = 20 then some 2 else if o = 22 then allT 1 l
  else if o = 21 then (match allT 2 (whensT l) with
    | none => none
    | some _ => allT 1 (thensT l))
  else match allT (asksT o) l with
    | none => none
    | some _ => some (givesT o)
mutual
def ET.typ (cols : List Int) : ET → Option Int
  | .mk o c d ks => if o = 1 then some (if 2 ≤ cols.getD c.toNat 0 ∧ cols.getD c.toNat 0 ≤ 4 then cols.getD c.toNat 0 else 1) else if o = 2 then some d.kind else if o = 23 then some 1
    else match ET.typs cols ks with
      | none => none
      | some l => restT o l
def ET.typs (cols : List Int) : List ET → Option (List Int)
  | [] => some []
  | k :: ks => match k.typ cols with
    | none => none
    | some t => match ET.typs cols ks with
      | none => none
      | some l => some (t :: l)
end

theorem fitsT_some {a b k : Int} (h : fitsT a b = some k) : (a ≠ 1 → k = a) ∧ (b = 1 ∨ b = k) := by
  unfold fitsT at h
  split at h
  · next e => cases h; exact ⟨fun h => absurd e h, .inr rfl⟩
  · split at h
    · next e1 e2 =>
      cases h
      exact ⟨fun _ => rfl, by rcases e2 with h | h; exact .inl h; exact .inr h.symm⟩
    · cases h
theorem allT_some : ∀ {l : List Int} {a k : Int}, allT a l = some k → (a ≠ 1 → k = a) ∧ ∀ x ∈ l, x = 1 ∨ x = k
  | [], a, k, h => by simp only [allT] at h; cases h; exact ⟨fun _ => rfl, fun x hx => by cases hx⟩
  | x :: l, a, k, h => by
    simp only [allT] at h
    split at h
    · cases h
    · next k' hk =>
      obtain ⟨h1, h2⟩ := fitsT_some hk
      obtain ⟨h3, h4⟩ := allT_some h
      refine ⟨fun ha => ?_, fun y hy => ?_⟩
      · have := h1 ha
        subst this
        exact h3 ha
      · rcases List.mem_cons.1 hy with rfl | hy
        · rcases h2 with h2 | h2
          · exact .inl h2
          · by_cases e : y = 1
            · exact .inl e
            · right; subst h2; exact (h3 e).symm
        · exact h4 y hy

theorem typs_get {cols : List Int} : ∀ {ks : List ET} {l : List Int}, ET.typs cols ks = some l → l.length = ks.length ∧ ∀ (i : Nat) k, ks[i]? = some k → ∃ t, l[i]? = some t ∧ k.typ cols = some t
  | [], l, h => by simp only [ET.typs] at h; cases h; exact ⟨rfl, fun i k hk => by simp at hk⟩
  | k :: ks, l, h => by
    simp only [ET.typs] at h
    cases h1 : k.typ cols with
    | none => rw [h1] at h; cases h
    | some t =>
      rw [h1] at h
      cases h2 : ET.typs cols ks with
      | none => rw [h2] at h; cases h
      | some l' =>
        rw [h2] at h
        cases h
        obtain ⟨hl, hg⟩ := typs_get h2
        refine ⟨by simp [hl], fun i x hx => ?_⟩
        cases i with
        | zero => simp at hx; subst hx; exact ⟨t, rfl, h1⟩
        | succ i => simpa using hg i x (by simpa using hx)

mutual
/-- has it none of the operators that may fail? -/
def ET.safe : ET → Bool
  | .mk o _ _ ks => !(decide (3 ≤ o) && decide (o ≤ 9)) && !decide (o = 23) && ET.safes ks
def ET.safes : List ET → Bool
  | [] => true
  | k :: ks => k.safe && ET.safes ks
end
theorem safes_iff : ∀ {ks : List ET}, ET.safes ks = true ↔ ∀ k ∈ ks, k.safe = true
  | [] => by simp [ET.safes]
  | k :: ks => by simp [ET.safes, safes_iff (ks := ks)]
mutual
/-- has it none of the operators that may fail, so deep? -/
def ET.sf : ET → Nat → Bool
  | .mk o _ _ ks, deep => if 60 < deep ∨ (3 ≤ o ∧ o ≤ 9) ∨ o = 23 then false else ET.sfs ks (deep + 1)
def ET.sfs : List ET → Nat → Bool
  | [], _ => true
  | k :: ks, deep => k.sf deep && ET.sfs ks deep
end
theorem sfs_iff : ∀ {ks : List ET} {deep : Nat}, ET.sfs ks deep = true ↔ ∀ k ∈ ks, k.sf deep = true
  | [], deep => by simp [ET.sfs]
  | k :: ks, deep => by simp [ET.sfs, sfs_iff (ks := ks)]
theorem own_kids {o c : Int} {d : Dat} {ks : List ET} (h : ET.own okD (.mk o c d ks) = true) : kidsOk o ks.length = true := by
  simp only [ET.own, ET.op, ET.kids, Bool.and_eq_true] at h
  exact h.1.1

end Go.Proofs.YtolikaginhjbhaaGreatDoor
namespace Go.Proofs.YtolikaginhjbhaaGreatDoor
open Go.RowKit Go.Pen
attribute [local go_sem ↓] Go.wp_at_zero Go.wp_at_succ
attribute [local go_sem] Oper.semAt_some

/-- what a type of two answers -/
def kindV (r : Option Int) : Value := match r with
  | some k => .tuple #[.int .u8 k, .nilIface]
  | none => .tuple #[.int .u8 0, .iface 138 (.agg #[.int .u16 31])]

set_option maxRecDepth 100000 in
set_option maxHeartbeats 400000 in
theorem fits_57 (a b : Int) (w : World) (ha : 0 ≤ a ∧ a ≤ 255) (hb : 0 ≤ b ∧ b ≤ 255) :
    Calls Tryz.prog 148 #[.int .u8 a, .int .u8 b] w fun ev w' => ev = .returned (kindV (fitsT a b)) ∧ w' = w := by
  by_cases h1 : a = 1
  · subst h1
    have e : fitsT 1 b = some b := rfl
    rw [e]
    go_enter Tryz.func148, Tryz.ntmps148
    go_wp2_with fail
    go_ret2
    exact ⟨rfl, rfl⟩
  · have h1' : (a == 1) = false := by simpa using h1
    by_cases h2 : b = 1
    · subst h2
      have e : fitsT a 1 = some a := by unfold fitsT; rw [if_neg h1, if_pos (.inl rfl)]
      rw [e]
      go_enter Tryz.func148, Tryz.ntmps148
      go_wp2_with fail
      go_ret2
      exact ⟨rfl, rfl⟩
    · have h2' : (b == 1) = false := by simpa using h2
      by_cases h3 : a = b
      · subst h3
        have e : fitsT a a = some a := by unfold fitsT; rw [if_neg h1, if_pos (.inr rfl)]
        rw [e]
        go_enter Tryz.func148, Tryz.ntmps148
        go_wp2_with fail
        go_ret2
        exact ⟨rfl, rfl⟩
      · have h3' : (a == b) = false := by simpa using h3
        have e : fitsT a b = none := by unfold fitsT; rw [if_neg h1, if_neg (by rintro (h | h); exact h2 h; exact h3 h)]
        rw [e]
        go_enter Tryz.func148, Tryz.ntmps148
        go_wp2_with fail
        go_ret2
        exact ⟨rfl, rfl⟩
end Go.Proofs.YtolikaginhjbhaaGreatDoor
/- row.Check, expr.all: the walks. -/
namespace Go.Proofs.YtolikaginhjbhaaGreatDoor
open Go.RowKit Go.Pen
attribute [local go_sem ↓] Go.wp_at_zero Go.wp_at_succ
attribute [local go_sem] Oper.semAt_some

/-- kinds in memory -/
def KindsOn (w : World) (l : List Int) (v : Value) : Prop :=
  ∃ a c, v = .slice a l.length c ∧ (a = none → c = 0) ∧ (l ≠ [] → ∃ b o, a = some ⟨b, o, none⟩ ∧ ∀ i x, l[i]? = some x → w.cell? ⟨b, o + i, none⟩ = some (.int .u8 x))
theorem KindsOn.below {w w' : World} {l : List Int} {v : Value} (h : KindsOn w l v) (hb : Below w.heap.size w w') : KindsOn w' l v := by
  obtain ⟨a, c, hv, hn, h⟩ := h
  refine ⟨a, c, hv, hn, fun hne => ?_⟩
  obtain ⟨b, o, ha, hc⟩ := h hne
  exact ⟨b, o, ha, fun i x hx => cell_keep hb (hc i x hx)⟩
theorem allT_append {x : Int} {m : List Int} : ∀ {l : List Int} {k : Int}, allT k (l ++ x :: m) = match allT k l with
    | none => none
    | some k' => (match fitsT k' x with
      | none => none
      | some k'' => allT k'' m)
  | [], k => by simp only [List.nil_append, allT]; try (cases fitsT k x <;> rfl)
  | y :: l, k => by
    simp only [List.cons_append, allT]
    cases h : fitsT k y with
    | none => rfl
    | some k' => exact allT_append (l := l) (k := k')
theorem allT_snoc {x : Int} {l : List Int} {k : Int} : allT k (l ++ [x]) = match allT k l with
    | none => none
    | some k' => fitsT k' x := by
  rw [allT_append]
  cases allT k l with
  | none => rfl
  | some k' =>
    simp only
    cases fitsT k' x <;> rfl

theorem allT_app : ∀ {l m : List Int} {k : Int}, allT k (l ++ m) = (allT k l).bind fun k' => allT k' m
  | [], m, k => rfl
  | y :: l, m, k => by
    simp only [List.cons_append, allT]
    cases h : fitsT k y with
    | none => rfl
    | some k' => exact allT_app (l := l) (k := k')
theorem allT_parts {l : List Int} {k : Int} {i : Nat} : allT k l = (allT k (l.take i)).bind fun k' => allT k' (l.drop i) := by
  rw [← allT_app, List.take_append_drop]

set_option maxRecDepth 100000 in
set_option maxHeartbeats 400000 in
theorem all_38 (k0 : Int) (l : List Int) (v : Value) (w : World) (hl : KindsOn w l v) (hk : 0 ≤ k0 ∧ k0 ≤ 255) (hls : ∀ x ∈ l, 0 ≤ x ∧ x ≤ 255) (hn : l.length ≤ 140737488355328) :
    Calls Tryz.prog 101 #[.int .u8 k0, v] w fun ev w' => ev = .returned (kindV (allT k0 l)) ∧ w' = w := by
  obtain ⟨a, cc, rfl, -, hri⟩ := hl
  obtain ⟨K, eK⟩ : ∃ K, K = l.length := ⟨_, rfl⟩
  rw [← eK] at hn ⊢
  have EK := Lib.hid eK
  have HRI := Lib.hid hri
  have HLS := Lib.hid hls
  clear hri eK hls
  obtain ⟨R, eR⟩ : ∃ R, R = allT k0 l := ⟨_, rfl⟩
  rw [← eR]
  have ER := Lib.hid eR
  clear eR
  go_enter Tryz.func101, Tryz.ntmps101
  go_wp2_with fail
  go_loopg [0, 11] K (fun g s0 s11 wr => ∃ (i : Nat) (k : Int), i ≤ K ∧ g = K - i ∧ s11 = .int .i64 i ∧ s0 = .int .u8 k ∧ allT k0 (l.take i) = some k ∧ (0 ≤ k ∧ k ≤ 255) ∧ wr = w)
  case atStart => exact ⟨0, k0, Nat.zero_le _, rfl, rfl, rfl, rfl, hk, rfl⟩
  case round =>
    obtain ⟨i, k, hi, rfl, rfl, rfl, hall, hkr, rfl⟩ := hrel
    have HALL := Lib.hid hall
    clear hall
    by_cases hlt : i < K
    · obtain ⟨x, hx⟩ : ∃ x, l[i]? = some x := ⟨l[i]'(by rw [← EK.out]; exact hlt), List.getElem?_eq_getElem _⟩
      obtain ⟨b, off, rfl, hrs⟩ := HRI.out (fun e => by rw [e] at hx; simp at hx)
      have q0 := hrs _ _ hx
      have hxs := HLS.out x (List.mem_of_getElem? hx)
      have hct := fits_57 k x wr hkr hxs
      have HCT := Lib.hid hct
      have htk : allT k0 (l.take (i + 1)) = fitsT k x := by
        rw [List.take_succ_eq_append_getElem (List.getElem?_eq_some_iff.1 hx).1, allT_snoc, HALL.out, (List.getElem?_eq_some_iff.1 hx).2]
      have HTK := Lib.hid htk
      have HX := Lib.hid hx
      clear hrs hx hct htk
      go_wp2_with fail
      refine HCT.out.mono ?_
      rintro ev w2 ⟨rfl, rfl⟩
      clear HCT q0
      cases hq : fitsT k x with
      | none =>
        have hn0 : R = none := by
          have h := HTK.out
          rw [hq] at h
          rw [ER.out, allT_parts (i := i + 1), h]
          rfl
        subst hn0
        clear hq
        simp only [kindV]
        go_wp2
        go_ret2
        exact ⟨rfl, rfl⟩
      | some k' =>
        have h := HTK.out
        rw [hq] at h
        have hk' : 0 ≤ k' ∧ k' ≤ 255 := by
          unfold fitsT at hq
          split at hq
          · cases hq; exact hxs
          · split at hq
            · cases hq; exact hkr
            · cases hq
        have HH := Lib.hid h
        have HKK := Lib.hid hk'
        clear h hk' hq
        simp only [kindV]
        go_wp2
        go_roundg (K - (i + 1))
        case measure => omega
        case rel => exact ⟨i + 1, k', by omega, rfl, by go_num, rfl, HH.out, HKK.out, rfl⟩
    · obtain rfl : i = K := by omega
      have hwl : l.take i = l := List.take_of_length_le (by rw [EK.out]; exact Nat.le_refl _)
      have hws := HALL.out
      rw [hwl] at hws
      obtain rfl : R = some k := ER.out.trans hws
      clear hws hwl
      go_wp2
      go_ret2
      exact ⟨rfl, rfl⟩
end Go.Proofs.YtolikaginhjbhaaGreatDoor
/- expr.types: the walk. -/
namespace Go.Proofs.YtolikaginhjbhaaGreatDoor
open Go.RowKit Go.Pen
attribute [local go_sem ↓] Go.wp_at_zero Go.wp_at_succ
attribute [local go_sem] Oper.semAt_some

set_option maxRecDepth 100000 in
set_option maxHeartbeats 800000 in
theorem types_39 (o : Int) (w : World) (ho : 3 ≤ o ∧ o ≤ 19) :
    Calls Tryz.prog 102 #[.int .u8 o] w fun ev w' => ev = .returned (.tuple #[.int .u8 (asksT o), .int .u8 (givesT o)]) ∧ w' = w := by
  obtain rfl | rfl | rfl | rfl | rfl | rfl | rfl | rfl | rfl | rfl | rfl | rfl | rfl | rfl | rfl | rfl | rfl : o = 3 ∨ o = 4 ∨ o = 5 ∨ o = 6 ∨ o = 7 ∨ o = 8 ∨ o = 9 ∨ o = 10 ∨ o = 11 ∨ o = 12 ∨ o = 13 ∨ o = 14 ∨ o = 15 ∨ o = 16 ∨ o = 17 ∨ o = 18 ∨ o = 19 := by omega
  all_goals
    clear ho
    go_enter Tryz.func102, Tryz.ntmps102
    go_wp2_with fail
    go_ret2
    exact ⟨rfl, rfl⟩
end Go.Proofs.YtolikaginhjbhaaGreatDoor
/- expr.typed: the walk. -/
namespace Go.Proofs.YtolikaginhjbhaaGreatDoor
open Go.RowKit Go.Pen
attribute [local go_sem ↓] Go.wp_at_zero Go.wp_at_succ
attribute [local go_sem] Oper.semAt_some

theorem info23 : (Tryz.prog.info? 23).map (fun i => (i.zero, i.size, i.bytes)) = some (some (.int .u8 0), 1, 1) := by kernel_rfl

/-- a type, or the error of the wrong type (beside it whatever type) -/
def KindIs (k : Option Int) (v : Value) : Prop := match k with
  | some t => v = .tuple #[.int .u8 t, .nilIface]
  | none => ∃ g : Int, v = .tuple #[.int .u8 g, .iface 138 (.agg #[.int .u16 31])]
theorem kindIs (k : Option Int) : KindIs k (kindV k) := by
  cases k
  · exact ⟨0, rfl⟩
  · rfl
def TyPost (k : Option Int) (w : World) (ev : Ending) (w' : World) : Prop := ∃ v, ev = .returned v ∧ KindIs k v ∧ Below w.heap.size w w'
def TyOK (cols : List Int) (vc : Value) (e : ET) : Prop := ∀ (deep : Nat) (kv : Value) (w : World), e.At w kv → e.fits → e.good okD deep = true → e.within cols.length = true → KindsOn w cols vc →
    Calls Tryz.prog 71 #[e.agg kv, vc] w (TyPost (e.typ cols) w)

set_option maxRecDepth 100000 in
set_option maxHeartbeats 800000 in
theorem typed_col (cols : List Int) (vc : Value) (hcr : ∀ x ∈ cols, 0 ≤ x ∧ x ≤ 255) (c : Int) (d : Dat) (ks : List ET) : TyOK cols vc (.mk 1 c d ks) := by
  intro deep kv w hat hfit hg hw hk
  obtain ⟨a, cc, rfl, -, -⟩ := ET.On.iff.1 hat
  simp only [ET.good, Bool.and_eq_true, decide_eq_true_eq, ET.goods_iff] at hg
  simp only [ET.within, Bool.and_eq_true, ET.withins_iff, Bool.not_eq_true', Bool.and_eq_false_iff, decide_eq_false_iff_not] at hw
  have hc0 := own_col_nn hg.1.1
  have hc1 : c < cols.length := by
    rcases hw.1 with h | h
    · exact absurd trivial h
    · omega
  obtain ⟨x, hx⟩ : ∃ x, cols[c.toNat]? = some x := ⟨cols[c.toNat]'(by omega), List.getElem?_eq_getElem _⟩
  obtain ⟨va, vcc, rfl, -, hcs⟩ := hk
  obtain ⟨b, o, rfl, hqs⟩ := hcs (fun e => by rw [e] at hx; simp at hx)
  have q0 := hqs _ _ hx
  have xl : b < w.heap.size := World.block_lt_of_cell? w _ q0
  have q0 := fun (A : Obj) => cell_keep (one_below w A) q0
  have xc : (c.toNat : Int) = c := by omega
  have hd : cols.getD c.toNat 0 = x := by rw [List.getD_eq_getElem?_getD, hx]; rfl
  have ht : (ET.mk 1 c d ks).typ cols = some (if 2 ≤ x ∧ x ≤ 4 then x else 1) := by
    simp only [ET.typ, if_true]; rw [hd]
  obtain ⟨N, eN⟩ : ∃ N, N = cols.length := ⟨_, rfl⟩
  rw [ht]
  rw [← eN] at hc1 ⊢
  unfold ET.agg
  simp only [ET.op, ET.col, ET.lit, ET.kids]
  have hxr := hcr x (List.mem_of_getElem? hx)
  clear ht hd hcs hqs hx hg hw hfit hat eN
  by_cases h2 : 2 ≤ x
  · by_cases h4 : x ≤ 4
    · rw [if_pos ⟨h2, h4⟩]
      go_enter Tryz.func71, Tryz.ntmps71
      go_wp2_with fail
      go_ret2
      exact ⟨_, rfl, rfl, one_below _ _⟩
    · rw [if_neg (fun h => h4 h.2)]
      go_enter Tryz.func71, Tryz.ntmps71
      go_wp2_with fail
      go_ret2
      exact ⟨_, rfl, rfl, one_below _ _⟩
  · rw [if_neg (fun h => h2 h.1)]
    go_enter Tryz.func71, Tryz.ntmps71
    go_wp2_with fail
    go_ret2
    exact ⟨_, rfl, rfl, one_below _ _⟩

set_option maxRecDepth 100000 in
set_option maxHeartbeats 800000 in
theorem typed_lit (cols : List Int) (vc : Value) (c : Int) (d : Dat) (ks : List ET) : TyOK cols vc (.mk 2 c d ks) := by
  intro deep kv w hat hfit hg hw hk
  obtain ⟨a, cc, rfl, -, -⟩ := ET.On.iff.1 hat
  obtain ⟨va, vcc, rfl, -, -⟩ := hk
  have ht : (ET.mk 2 c d ks).typ cols = some d.kind := by simp [ET.typ]
  rw [ht]
  unfold ET.agg
  simp only [ET.op, ET.col, ET.lit, ET.kids]
  clear ht hg hw hfit hat
  go_enter Tryz.func71, Tryz.ntmps71
  go_wp2_with fail
  go_ret2
  exact ⟨_, rfl, rfl, one_below _ _⟩

set_option maxRecDepth 100000 in
set_option maxHeartbeats 800000 in
theorem typed_fail (cols : List Int) (vc : Value) (c : Int) (d : Dat) (ks : List ET) : TyOK cols vc (.mk 23 c d ks) := by
  intro deep kv w hat hfit hg hw hk
  obtain ⟨a, cc, rfl, -, -⟩ := ET.On.iff.1 hat
  obtain ⟨va, vcc, rfl, -, -⟩ := hk
  have ht : (ET.mk 23 c d ks).typ cols = some 1 := by simp [ET.typ]
  rw [ht]
  unfold ET.agg
  simp only [ET.op, ET.col, ET.lit, ET.kids]
  clear ht hg hw hfit hat
  go_enter Tryz.func71, Tryz.ntmps71
  go_wp2_with fail
  go_ret2
  exact ⟨_, rfl, rfl, one_below _ _⟩
end Go.Proofs.YtolikaginhjbhaaGreatDoor
/- expr.Type: the walk. -/
namespace Go.Proofs.YtolikaginhjbhaaGreatDoor
open Go.RowKit Go.Pen
attribute [local go_sem ↓] Go.wp_at_zero Go.wp_at_succ
attribute [local go_sem] Oper.semAt_some

def typeC (cols : List Int) (e : ET) : Int × Nat := if e.may okD = true ∧ e.within cols.length = true then (match e.typ cols with
  | none => (0, 31)
  | some k => (k, 0)) else (0, 30)
set_option maxRecDepth 100000 in
set_option maxHeartbeats 1000000 in
theorem type_31 (cols : List Int) (e : ET) (a : Option Addr) (cc : Nat) (va : Option Addr) (vcc : Nat) (w : World) (hfit : e.fits) (hat : e.At w (.slice a e.kids.length cc)) (hk : KindsOn w cols (.slice va cols.length vcc)) (hT : Lib.Utf8Tabs 1 2 w) (hE : ErrTy w) (h3 : 3 ≤ w.heap.size)
    (hty : TyOK cols (.slice va cols.length vcc) e) :
    Calls Tryz.prog 31 #[e.agg (.slice a e.kids.length cc), .slice va cols.length vcc] w fun ev w' => ev = .returned (.tuple #[.int .u8 (typeC cols e).1, .int .u16 (typeC cols e).2]) ∧ Below w.heap.size w w' := by
  have hov := fun W hb => over_41 e a cc cols.length W hfit (hat.below (w' := W) hb) (tabs_below hT hb h3) (Nat.le_trans h3 hb.size)
  unfold ET.agg at hov
  have HOV := Lib.hid hov
  have HAT := Lib.hid hat
  have HE := Lib.hid hE
  have HK := Lib.hid hk
  have HFIT := Lib.hid hfit
  clear hov hat hfit hT hE hk
  obtain ⟨R, eR⟩ : ∃ R, R = typeC cols e := ⟨_, rfl⟩
  rw [← eR]
  unfold typeC at eR
  by_cases hok : e.may okD = true ∧ e.within cols.length = true
  rotate_left
  · rw [if_neg hok] at eR
    subst eR
    have hno : (e.may okD && e.within cols.length) = false := by
      cases h1 : e.may okD
      · rfl
      · cases h2 : e.within cols.length
        · rfl
        · exact absurd ⟨h1, h2⟩ hok
    rw [hno] at HOV
    clear hok hno hty
    unfold ET.agg
    go_enter Tryz.func31, Tryz.ntmps31
    go_wp2_with fail
    refine (HOV.out _ (one_below _ _)).mono ?_
    rintro ev w1 ⟨rfl, hb1⟩
    have HB1 := Lib.hid ((one_below w _).trans (hb1.mono (by simp)))
    clear hb1
    go_wp2_with fail
    go_ret2
    exact ⟨rfl, HB1.out⟩
  · rw [if_pos hok] at eR
    have hce := fun (W : World) (hb : Below w.heap.size w W) => hty 1 _ W (HAT.out.below hb) HFIT.out (ET.may_good hok.1) hok.2 (HK.out.below hb)
    unfold ET.agg at hce
    have HCE := Lib.hid hce
    rw [hok.1, hok.2] at HOV
    simp only [Bool.and_true] at HOV
    clear hok hce hty
    unfold ET.agg
    go_enter Tryz.func31, Tryz.ntmps31
    go_wp2_with fail
    refine (HOV.out _ (one_below _ _)).mono ?_
    rintro ev w1 ⟨rfl, hb1⟩
    have t1 := (hb1.block _ (lt_of_heap (heap_alloc_new w _))).trans (heap_alloc_new w _)
    have y0 := cell_of_heap (o := 0) t1 rfl
    have y1 := cell_of_heap (o := 1) t1 rfl
    have y2 := cell_of_heap (o := 2) t1 rfl
    have y3 := cell_of_heap (o := 3) t1 rfl
    have y4 := cell_of_heap (o := 4) t1 rfl
    have y5 := cell_of_heap (o := 5) t1 rfl
    have y6 := cell_of_heap (o := 6) t1 rfl
    have HB1 := Lib.hid ((one_below w _).trans (hb1.mono (by simp)))
    clear hb1 t1
    go_wp2_with fail
    refine (HCE.out _ HB1.out).mono ?_
    rintro ev w2 ⟨v, rfl, hv, hb2⟩
    have HB2 := Lib.hid (HB1.out.trans (hb2.mono HB1.out.size))
    clear hb2 y0 y1 y2 y3 y4 y5 y6
    cases hq : e.typ cols with
    | none =>
      rw [hq] at hv eR
      obtain ⟨g, rfl⟩ := hv
      subst eR
      have hnum := number_43 31 w2 (by decide) (cell_keep HB2.out HE.out)
      simp only [errV, show ¬ (31 : Nat) = 0 by decide, if_false] at hnum
      have HNUM := Lib.hid hnum
      clear hnum
      go_wp2_with fail
      refine HNUM.out.mono ?_
      rintro ev w3 ⟨rfl, hb3⟩
      have HB3 := Lib.hid (HB2.out.trans (hb3.mono HB2.out.size))
      clear hb3
      go_wp2_with fail
      go_ret2
      exact ⟨rfl, HB3.out⟩
    | some t =>
      rw [hq] at hv eR
      obtain rfl : v = _ := hv
      subst eR
      go_wp2_with fail
      go_ret2
      exact ⟨rfl, HB2.out⟩
end Go.Proofs.YtolikaginhjbhaaGreatDoor
/- Own rows of kinds; conditions' and values' types, one pair at a time. -/
namespace Go.Proofs.YtolikaginhjbhaaGreatDoor
open Go.RowKit Go.Pen

theorem rowKinds {w : World} {B : Nat} {v : Value} {n : Nat} {l : List Int} (h : w.ownsRow B 23 1 v n (l.map fun t => Value.int .u8 t)) : KindsOn w l v := by
  obtain ⟨hl, h⟩ := h
  simp only [List.length_map, Nat.mul_one] at hl
  rcases h with ⟨rfl, hn⟩ | ⟨g, cap, cur, rfl, -, hh, -, -, -, htk⟩
  · have : l = [] := List.eq_nil_of_length_eq_zero (by omega)
    subst this
    exact ⟨none, 0, rfl, fun _ => rfl, fun h => absurd rfl h⟩
  · refine ⟨some ⟨g, 0, none⟩, cap, by rw [hl], (fun e => by cases e), fun _ => ⟨g, 0, rfl, fun i x hx => cell_of_heap hh ?_⟩⟩
    have h1 : (l.map fun t => Value.int .u8 t)[i]? = some (.int .u8 x) := by rw [List.getElem?_map, hx]; rfl
    rw [← htk] at h1
    rw [List.getElem?_take] at h1
    split at h1
    · simpa using h1
    · cases h1
/-- the conditions' types up to a place -/
theorem whens_two : ∀ (j : Nat) (l : List Int) (c v : Int), l.length = 2 * j → whensT (l ++ [c, v]) = whensT l ++ [c]
  | 0, l, c, v, h => by
    have : l = [] := List.eq_nil_of_length_eq_zero (by omega)
    subst this; rfl
  | j + 1, a :: b :: l, c, v, h => by
    simp only [List.cons_append, whensT]
    rw [whens_two j l c v (by simp at h; omega)]
  | j + 1, [_], c, v, h => by simp at h; omega
  | j + 1, [], c, v, h => by simp at h
theorem thens_two : ∀ (j : Nat) (l : List Int) (c v : Int), l.length = 2 * j → thensT (l ++ [c, v]) = thensT l ++ [v]
  | 0, l, c, v, h => by
    have : l = [] := List.eq_nil_of_length_eq_zero (by omega)
    subst this; rfl
  | j + 1, a :: b :: l, c, v, h => by
    simp only [List.cons_append, thensT]
    rw [thens_two j l c v (by simp at h; omega)]
  | j + 1, [_], c, v, h => by simp at h; omega
  | j + 1, [], c, v, h => by simp at h
/-- the last value, behind all pairs -/
theorem whens_one : ∀ (j : Nat) (l : List Int) (v : Int), l.length = 2 * j → whensT (l ++ [v]) = whensT l
  | 0, l, v, h => by
    have : l = [] := List.eq_nil_of_length_eq_zero (by omega)
    subst this; rfl
  | j + 1, a :: b :: l, v, h => by
    simp only [List.cons_append, whensT]
    rw [whens_one j l v (by simp at h; omega)]
  | j + 1, [_], v, h => by simp at h; omega
  | j + 1, [], v, h => by simp at h
theorem thens_one : ∀ (j : Nat) (l : List Int) (v : Int), l.length = 2 * j → thensT (l ++ [v]) = thensT l ++ [v]
  | 0, l, v, h => by
    have : l = [] := List.eq_nil_of_length_eq_zero (by omega)
    subst this; rfl
  | j + 1, a :: b :: l, v, h => by
    simp only [List.cons_append, thensT]
    rw [thens_one j l v (by simp at h; omega)]
  | j + 1, [_], v, h => by simp at h; omega
  | j + 1, [], v, h => by simp at h
end Go.Proofs.YtolikaginhjbhaaGreatDoor
/- Two rows of kinds that grow side by side in a region that draws its order. -/
namespace Go.Proofs.YtolikaginhjbhaaGreatDoor
open Go.RowKit Go.Pen
attribute [local go_sem ↓] Go.wp_at_zero Go.wp_at_succ
attribute [local go_sem] Oper.semAt_some

def kcell (t : Int) : Value := .int .u8 t
/-- the types made so far, in a slice of their own -/
def KSl (w : World) (H K i : Nat) (ts : List Int) : Prop := ts.length = i ∧ w.heap[H]? = some (.cells (ts.map kcell ++ List.replicate (K - i) (kcell 0)).toArray 23 (0, 0))
theorem KSl.size {w : World} {H K i : Nat} {ts : List Int} (h : KSl w H K i ts) : H < w.heap.size := lt_of_heap h.2
theorem KSl.made {w : World} {B H K : Nat} (h : w.ownsRow B 23 1 (.slice (some ⟨H, 0, none⟩) K K) K (madeCells #[.int .u8 0] K).toList) : KSl w H K 0 [] := by
  obtain ⟨hl, h⟩ := h
  rcases h with ⟨h, -⟩ | ⟨g, cap, cur, hv, -, hh, -, -, hsz, htk⟩
  · cases h
  · cases hv
    refine ⟨rfl, ?_⟩
    rw [toList_madeCells_one] at htk
    rw [List.take_of_length_le (by simp [hsz])] at htk
    rw [hh]
    have : cur = (List.replicate K (kcell 0)).toArray := by rw [← Array.toList_inj, htk]; rfl
    rw [this]
    simp
theorem KSl.at {w : World} {H K i : Nat} {ts : List Int} (h : KSl w H K i ts) (hi : i < K) : w.cell? ⟨H, i, none⟩ = some (.int .u8 0) := by
  refine cell_of_heap h.2 ?_
  obtain ⟨h1, -⟩ := h
  subst h1
  simp only [List.getElem?_toArray]
  rw [List.getElem?_append_right (by simp)]
  simp only [List.length_map, Nat.sub_self]
  rw [List.getElem?_replicate, if_pos (by omega)]
  rfl
theorem heap_setCell_own {w : World} {b i : Nat} {cs : Array Value} {T : TypeId} {fr : Nat × Nat} (hb : w.heap[b]? = some (.cells cs T fr)) (v : Value) : (w.setCell ⟨b, i, none⟩ v).heap[b]? = some (.cells (cs.setIfInBounds i v) T fr) := by
  simp [World.setCell, Array.getElem?_modify, hb]
theorem KSl.put {w : World} {H K i : Nat} {ts : List Int} {t : Int} (h : KSl w H K i ts) (hi : i < K) : KSl (w.setCell ⟨H, i, none⟩ (.int .u8 t)) H K (i + 1) (ts ++ [t]) := by
  obtain ⟨h1, h2⟩ := h
  refine ⟨by simp [h1], ?_⟩
  rw [heap_setCell_own h2]
  congr 2
  subst h1
  apply Array.ext'
  obtain ⟨m, hm⟩ : ∃ m, K - ts.length = m + 1 := ⟨K - ts.length - 1, by omega⟩
  have hm' : K - (ts.length + 1) = m := by omega
  rw [hm, hm', List.replicate_succ]
  simp only [List.setIfInBounds_toArray, List.map_append, List.map_cons, List.map_nil, List.append_assoc, List.singleton_append]
  rw [List.set_append_right _ _ (by simp)]
  simp [kcell]
theorem KSl.below {w w' : World} {H K i : Nat} {ts : List Int} (h : KSl w H K i ts) (hb : Below w.heap.size w w') : KSl w' H K i ts := ⟨h.1, (hb.block H h.size).trans h.2⟩
theorem KSl.kinds {w : World} {H K : Nat} {ts : List Int} (h : KSl w H K K ts) : KindsOn w ts (.slice (some ⟨H, 0, none⟩) K K) := by
  obtain ⟨h1, h2⟩ := h
  refine ⟨some ⟨H, 0, none⟩, K, by rw [h1], (fun e => by cases e), fun _ => ⟨H, 0, rfl, fun i x hx => cell_of_heap h2 ?_⟩⟩
  have hl := (List.getElem?_eq_some_iff.1 hx).1
  simp only [List.getElem?_toArray, Nat.zero_add]
  rw [List.getElem?_append_left (by simpa using hl), List.getElem?_map, hx]
  rfl

theorem typs_snoc {cols : List Int} {k : ET} : ∀ {ks : List ET} {ts : List Int}, ET.typs cols ks = some ts → ET.typs cols (ks ++ [k]) = match k.typ cols with
    | none => none
    | some t => some (ts ++ [t])
  | [], ts, h => by
    simp only [ET.typs] at h
    cases h
    simp only [List.nil_append, ET.typs]
    try (cases k.typ cols <;> rfl)
  | x :: ks, ts, h => by
    simp only [ET.typs] at h
    simp only [List.cons_append, ET.typs]
    cases hx : x.typ cols with
    | none => rw [hx] at h; cases h
    | some t =>
      rw [hx] at h
      simp only at h ⊢
      cases hq : ET.typs cols ks with
      | none => rw [hq] at h; cases h
      | some l =>
        rw [hq] at h
        cases h
        rw [typs_snoc hq]
        cases k.typ cols <;> rfl
theorem typs_none {cols : List Int} {k : ET} : ∀ {ks : List ET}, k ∈ ks → k.typ cols = none → ET.typs cols ks = none
  | [], h, _ => by cases h
  | x :: ks, h, hn => by
    simp only [ET.typs]
    rcases List.mem_cons.1 h with rfl | h
    · rw [hn]
    · rw [typs_none h hn]
      cases x.typ cols <;> rfl
theorem allT_mem : ∀ {l : List Int} {a k : Int}, allT a l = some k → k = a ∨ k ∈ l
  | [], a, k, h => by simp only [allT] at h; cases h; exact .inl rfl
  | x :: l, a, k, h => by
    simp only [allT] at h
    cases hf : fitsT a x with
    | none => rw [hf] at h; cases h
    | some y =>
      rw [hf] at h
      rcases allT_mem (l := l) (a := y) h with rfl | hm
      · unfold fitsT at hf
        split at hf
        · cases hf; exact .inr (by simp)
        · split at hf
          · cases hf; exact .inl rfl
          · cases hf
      · exact .inr (by simp [hm])
theorem thens_mem : ∀ (n : Nat) (l : List Int), l.length ≤ n → ∀ x ∈ thensT l, x ∈ l
  | _, [], _, x, h => by simp [thensT] at h
  | _, [v], _, x, h => by simpa [thensT] using h
  | 0, _ :: _ :: _, h, _, _ => by simp at h
  | n + 1, c :: v :: l, hn, x, h => by
    simp only [thensT, List.mem_cons] at h
    rcases h with rfl | h
    · simp
    · have := thens_mem n l (by simp at hn; omega) x h
      simp [this]
theorem givesT_range (o : Int) : 0 ≤ givesT o ∧ givesT o ≤ 255 := by
  unfold givesT
  split
  · omega
  · split <;> omega
theorem rest_range {o : Int} {l : List Int} {t : Int} (h : restT o l = some t) (hl : ∀ x ∈ l, 0 ≤ x ∧ x ≤ 255) : 0 ≤ t ∧ t ≤ 255 := by
  unfold restT at h
  split at h
  · cases h; omega
  split at h
  · rcases allT_mem h with rfl | hm
    · omega
    · exact hl _ hm
  split at h
  · split at h
    · cases h
    · rcases allT_mem h with rfl | hm
      · omega
      · exact hl _ (thens_mem _ l (Nat.le_refl _) _ hm)
  · split at h
    · cases h
    · cases h; exact givesT_range o
theorem typ_range {cols : List Int} : ∀ (e : ET), e.fits → ∀ t, e.typ cols = some t → 0 ≤ t ∧ t ≤ 255 := by
  refine ET.ind fun o c d ks ih hfit t ht => ?_
  simp only [ET.fits] at hfit
  obtain ⟨-, -, hd, -, hfs⟩ := hfit
  simp only [ET.typ] at ht
  split at ht
  · have ht := Option.some.inj ht
    split at ht <;> omega
  split at ht
  · have ht := Option.some.inj ht
    have := hd.1
    omega
  split at ht
  · cases ht; omega
  cases hq : ET.typs cols ks with
  | none => rw [hq] at ht; cases ht
  | some l =>
    rw [hq] at ht
    refine rest_range ht fun x hx => ?_
    obtain ⟨hl, hg⟩ := typs_get hq
    obtain ⟨i, hi⟩ := List.getElem?_of_mem hx
    have hlt := (List.getElem?_eq_some_iff.1 hi).1
    obtain ⟨t', h1, h2⟩ := hg i (ks[i]'(by omega)) (List.getElem?_eq_getElem _)
    rw [hi] at h1
    cases h1
    exact ih _ (List.getElem_mem _) ((ET.fitss_iff.1 hfs) _ (List.getElem_mem _)) _ h2
theorem typs_range {cols : List Int} {ks : List ET} {ts : List Int} (h : ∀ k ∈ ks, k.fits) (ht : ET.typs cols ks = some ts) : ∀ x ∈ ts, 0 ≤ x ∧ x ≤ 255 := by
  intro x hx
  obtain ⟨hl, hg⟩ := typs_get ht
  obtain ⟨i, hi⟩ := List.getElem?_of_mem hx
  have hlt := (List.getElem?_eq_some_iff.1 hi).1
  obtain ⟨t, h1, h2⟩ := hg i (ks[i]'(by omega)) (List.getElem?_eq_getElem _)
  rw [hi] at h1
  cases h1
  exact typ_range _ (h _ (List.getElem_mem _)) _ h2
/-- a store into the slice: what was held elsewhere -/
theorem cell_elsewhere {w : World} {b H i j : Nat} {v u : Value} (h : w.cell? ⟨b, j, none⟩ = some v) (hn : b ≠ H) : (w.setCell ⟨H, i, none⟩ u).cell? ⟨b, j, none⟩ = some v := by
  rw [cell_set_ne (by simpa using Ne.symm hn)]
  exact h

theorem whens_mem : ∀ (n : Nat) (l : List Int), l.length ≤ n → ∀ x ∈ whensT l, x ∈ l
  | _, [], _, x, h => by simp [whensT] at h
  | _, [v], _, x, h => by simp [whensT] at h
  | 0, _ :: _ :: _, h, _, _ => by simp at h
  | n + 1, c :: v :: l, hn, x, h => by
    simp only [whensT, List.mem_cons] at h
    rcases h with rfl | h
    · simp
    · have := whens_mem n l (by simp at hn; omega) x h
      simp [this]
theorem KSl.get {w : World} {H K : Nat} {ts : List Int} (h : KSl w H K K ts) {i : Nat} {t : Int} (hx : ts[i]? = some t) : w.cell? ⟨H, i, none⟩ = some (.int .u8 t) := by
  obtain ⟨h1, h2⟩ := h
  refine cell_of_heap h2 ?_
  have hl := (List.getElem?_eq_some_iff.1 hx).1
  simp only [List.getElem?_toArray]
  rw [List.getElem?_append_left (by simpa using hl), List.getElem?_map, hx]
  rfl
/-- two rows of the call's own, apart -/
structure Two (W : World) (B : Nat) (u : Value) (n : Nat) (xs : List Value) (v : Value) (m : Nat) (ys : List Value) : Prop where
  own1 : W.ownsRow B 23 1 u n xs
  own2 : W.ownsRow B 23 1 v m ys
  apart : ∀ g, u.ownBlock = some g → v.ownBlock ≠ some g
theorem own_moved {W W' : World} {B : Nat} {u : Value} {n : Nat} {xs : List Value} (h : W.ownsRow B 23 1 u n xs) (hk : ∀ g, u.ownBlock = some g → g < W.heap.size → W'.heap[g]? = W.heap[g]?) : W'.ownsRow B 23 1 u n xs := by
  obtain ⟨h1, h2⟩ := h
  refine ⟨h1, ?_⟩
  rcases h2 with h2 | ⟨g, cap, cur, rfl, hb, hh, h3⟩
  · exact .inl h2
  · exact .inr ⟨g, cap, cur, rfl, hb, (hk g rfl (lt_of_heap hh)).trans hh, h3⟩
theorem own_lt {W : World} {B : Nat} {u : Value} {n : Nat} {xs : List Value} (h : W.ownsRow B 23 1 u n xs) {g : Nat} (hg : u.ownBlock = some g) : B ≤ g ∧ g < W.heap.size := by
  rcases h.2 with ⟨rfl, h0⟩ | ⟨g', cap, cur, rfl, hb, hh, h3⟩
  · cases hg
  · cases hg
    exact ⟨hb, lt_of_heap hh⟩
/-- what a round keeps -/
structure Cas (w W : World) (H K : Nat) (ts : List Int) (u : Value) (n : Nat) (xs : List Value) (v : Value) (m : Nat) (ys : List Value) : Prop where
  two : Two W (H + 1) u n xs v m ys
  ks : KSl W H K K ts
  bel : Below w.heap.size w W
  lo : w.heap.size ≤ H
theorem Cas.size {w W : World} {H K : Nat} {ts : List Int} {u : Value} {n : Nat} {xs : List Value} {v : Value} {m : Nat} {ys : List Value} (h : Cas w W H K ts u n xs v m ys) : H + 1 ≤ W.heap.size := h.ks.size
theorem Cas.alloc {w W : World} {H K : Nat} {ts : List Int} {u : Value} {n : Nat} {xs : List Value} {v : Value} {m : Nat} {ys : List Value} (h : Cas w W H K ts u n xs v m ys) (o : Obj) : Cas w (W.alloc o) H K ts u n xs v m ys :=
  ⟨⟨h.two.own1.alloc _, h.two.own2.alloc _, h.two.apart⟩, h.ks.below (one_below _ _), h.bel.alloc h.bel.size _, h.lo⟩
theorem Cas.drew {w W : World} {H K : Nat} {ts : List Int} {u : Value} {n : Nat} {xs : List Value} {v : Value} {m : Nat} {ys : List Value} (h : Cas w W H K ts u n xs v m ys) : Cas w W.drew H K ts u n xs v m ys :=
  ⟨⟨h.two.own1, h.two.own2, h.two.apart⟩, h.ks, ⟨h.bel.os, h.bel.tape, h.bel.output, h.bel.size, h.bel.block⟩, h.lo⟩
theorem ksl_moved {W W' : World} {H K i : Nat} {ts : List Int} (h : KSl W H K i ts) (hb : W'.heap[H]? = W.heap[H]?) : KSl W' H K i ts := ⟨h.1, hb.trans h.2⟩
theorem Cas.app1 {w W W' : World} {H K : Nat} {ts : List Int} {u : Value} {n : Nat} {xs : List Value} {v : Value} {m : Nat} {ys : List Value} (h : Cas w W H K ts u n xs v m ys) {g cap n' : Nat} {xs' : List Value} (ho : W'.ownsRow (H + 1) 23 1 (.slice (some ⟨g, 0, none⟩) n' cap) n' xs') (hg : W.grownBy W' u.ownBlock) (ha : u.ownBlock = some g ∨ g = W.heap.size) : Cas w W' H K ts (.slice (some ⟨g, 0, none⟩) n' cap) n' xs' v m ys := by
  refine ⟨⟨ho, own_moved h.two.own2 fun g2 e hl => hg.block g2 hl fun e2 => h.two.apart g2 e2.symm e, fun g2 e e2 => ?_⟩, ksl_moved h.ks (hg.block H h.ks.size fun e => ?_), h.bel.grown hg h.bel.size fun g2 e => ?_, h.lo⟩
  · obtain rfl : g = g2 := by simpa [Value.ownBlock] using e
    rcases ha with ha | ha
    · exact h.two.apart g ha e2
    · have := (own_lt h.two.own2 e2).2; omega
  · have := (own_lt h.two.own1 e.symm).1; omega
  · have := (own_lt h.two.own1 e).1; have := h.lo; omega
theorem Cas.app2 {w W W' : World} {H K : Nat} {ts : List Int} {u : Value} {n : Nat} {xs : List Value} {v : Value} {m : Nat} {ys : List Value} (h : Cas w W H K ts u n xs v m ys) {g cap n' : Nat} {ys' : List Value} (ho : W'.ownsRow (H + 1) 23 1 (.slice (some ⟨g, 0, none⟩) n' cap) n' ys') (hg : W.grownBy W' v.ownBlock) (ha : v.ownBlock = some g ∨ g = W.heap.size) : Cas w W' H K ts u n xs (.slice (some ⟨g, 0, none⟩) n' cap) n' ys' := by
  refine ⟨⟨own_moved h.two.own1 fun g2 e hl => hg.block g2 hl fun e2 => h.two.apart g2 e e2.symm, ho, fun g2 e e2 => ?_⟩, ksl_moved h.ks (hg.block H h.ks.size fun e => ?_), h.bel.grown hg h.bel.size fun g2 e => ?_, h.lo⟩
  · obtain rfl : g = g2 := by simpa [Value.ownBlock] using e2
    rcases ha with ha | ha
    · exact h.two.apart g e ha
    · have := (own_lt h.two.own1 e).2; omega
  · have := (own_lt h.two.own2 e.symm).1; omega
  · have := (own_lt h.two.own2 e).1; have := h.lo; omega
/-- a cell laid for an append -/
structure Pend (W : World) (u v : Value) (b : Nat) (t : Int) : Prop where
  cell : W.heap[b]? = some (.cells #[kcell t] 23 (0, 0))
  far1 : u.ownBlock ≠ some b
  far2 : v.ownBlock ≠ some b
theorem Pend.lt {W : World} {u v : Value} {b : Nat} {t : Int} (h : Pend W u v b t) : b < W.heap.size := lt_of_heap h.cell
theorem Cas.pend {w W W' : World} {H K : Nat} {ts : List Int} {u : Value} {n : Nat} {xs : List Value} {v : Value} {m : Nat} {ys : List Value} (h : Cas w W H K ts u n xs v m ys) {t : Int} {b : Nat} (hc : W'.heap[b]? = some (.cells #[kcell t] 23 (0, 0))) (hb : b = W.heap.size) : Pend W' u v b t :=
  ⟨hc, fun e => by have := (own_lt h.two.own1 e).2; omega, fun e => by have := (own_lt h.two.own2 e).2; omega⟩
theorem Pend.alloc {W : World} {u v : Value} {b : Nat} {t : Int} (h : Pend W u v b t) (o : Obj) : Pend (W.alloc o) u v b t := ⟨(Below.heap_alloc _ _ _ h.lt).trans h.cell, h.far1, h.far2⟩
theorem Pend.app1 {W W' : World} {u v : Value} {b : Nat} {t : Int} (h : Pend W u v b t) {g n cap : Nat} (hg : W.grownBy W' u.ownBlock) (ha : u.ownBlock = some g ∨ g = W.heap.size) : Pend W' (.slice (some ⟨g, 0, none⟩) n cap) v b t :=
  ⟨(hg.block b h.lt fun e => h.far1 e.symm).trans h.cell, (fun e => by
    obtain rfl : g = b := by simpa [Value.ownBlock] using e
    rcases ha with ha | ha
    · exact h.far1 ha
    · have := h.lt; omega), h.far2⟩
theorem Pend.app2 {W W' : World} {u v : Value} {b : Nat} {t : Int} (h : Pend W u v b t) {g n cap : Nat} (hg : W.grownBy W' v.ownBlock) (ha : v.ownBlock = some g ∨ g = W.heap.size) : Pend W' u (.slice (some ⟨g, 0, none⟩) n cap) b t :=
  ⟨(hg.block b h.lt fun e => h.far2 e.symm).trans h.cell, h.far1, fun e => by
    obtain rfl : g = b := by simpa [Value.ownBlock] using e
    rcases ha with ha | ha
    · exact h.far2 ha
    · have := h.lt; omega⟩
theorem Pend.news {W : World} {u v : Value} {b : Nat} {t : Int} (h : Pend W u v b t) : ∀ j x, ([kcell t] : List Value)[j]? = some x → W.cell? ((⟨b, 0, none⟩ : Addr).add j) = some x :=
  World.news_of_block (cs := #[kcell t]) h.cell
/-- a slice of one kind is laid: a step of a region that draws -/
theorem step_build {ops : Array Oper} {o : Oper} {a : Act} {W : World} {K : Act → World → Prop} {Q : Exit → Act → World → Prop} {E : Prop} (hgd : o.guard = none) (x : Operand)
    (ho : o.op = .buildSlice 76 1 #[(0, x)]) (t : Int) (hx : a.eval x = .int .u8 t)
    (h : ∀ b W', W' = W.alloc (.cells #[kcell t] 23) → b = W.heap.size → K (a.put o.dst (.slice (some ⟨b, 0, none⟩) 1 1)) W') :
    if Region.wanted o (yielded ops a.tmps) = true then Oper.wp Tryz.prog o a W K Q else E := by
  have hw : Region.wanted o (yielded ops a.tmps) = true := by simp [Region.wanted, hgd]
  rw [if_pos hw]
  have h := h W.heap.size _ rfl rfl
  unfold Oper.wp execOp
  simp only [ho, Instr.buildSlice, Instr.fill, List.map_toArray, List.map_cons, List.map_nil, hx]

  go_simp
  exact h
end Go.Proofs.YtolikaginhjbhaaGreatDoor
/- expr.typed: the walk of an operator. -/
namespace Go.Proofs.YtolikaginhjbhaaGreatDoor
open Go.RowKit Go.Pen
attribute [local go_sem ↓] Go.wp_at_zero Go.wp_at_succ
attribute [local go_sem] Oper.semAt_some

set_option maxRecDepth 100000 in
set_option maxHeartbeats 1000000 in
theorem typed_op (cols : List Int) (vc : Value) (o c : Int) (d : Dat) (ks : List ET) (ih : ∀ k ∈ ks, TyOK cols vc k) (ho : 3 ≤ o ∧ o ≤ 22) : TyOK cols vc (.mk o c d ks) := by
  intro deep kv w hat hfit hg hw hk
  obtain ⟨i0, hi0, hz0, hz1, hz2⟩ := info_parts info23
  obtain ⟨a, cc, rfl, -, hks⟩ := ET.On.iff.1 hat
  simp only [ET.fits] at hfit
  obtain ⟨⟨ho0, ho1⟩, ⟨hc0, hc1⟩, -, hkl, hfs⟩ := hfit
  simp only [ET.good, Bool.and_eq_true, decide_eq_true_eq, ET.goods_iff] at hg
  simp only [ET.within, Bool.and_eq_true, ET.withins_iff, Bool.not_eq_true', Bool.and_eq_false_iff, decide_eq_false_iff_not] at hw
  have HF := Lib.hid (ET.fitss_iff.1 hfs)
  have HKS := Lib.hid hks
  have IH := Lib.hid ih
  have HG := Lib.hid hg
  have HW := Lib.hid hw.2
  have HK := Lib.hid hk
  obtain ⟨va, vcc, hvc, -, -⟩ := hk
  obtain ⟨R, eR⟩ : ∃ R, R = (ET.mk o c d ks).typ cols := ⟨_, rfl⟩
  rw [← eR]
  have ER := Lib.hid eR
  clear hfs hks ih hat hg hw eR
  unfold ET.agg
  simp only [ET.op, ET.col, ET.lit, ET.kids]
  obtain ⟨K, eK⟩ : ∃ K, K = ks.length := ⟨_, rfl⟩
  rw [← eK] at hkl ⊢
  have EK := Lib.hid eK
  have HVC := Lib.hid hvc
  clear eK hvc
  have n1 : (o == 1) = false := by simp; omega
  have n2 : (o == 2) = false := by simp; omega
  have n3 : (o == 23) = false := by simp; omega
  go_enter Tryz.func71, Tryz.ntmps71
  go_wp2_with (at_make; refine wpList_make_full _ rfl _ _ 76 rfl w.heap.size 23 i0 (.int .u8 0) 1 Tryz.underlying76 hi0 hz0 hz1 .i64 .i64 (K : Int) (K : Int) K rfl rfl rfl rfl (by rw [hz2]; omega) (by unfold maxLen; omega) (by simp) ?_)
  intro w1 ho1 hg1
  have hks1 := KSl.made ho1
  have hb1 : Below w.heap.size w w1 := (one_below w _).grown hg1 (by simp) (by intro k hk; cases hk)
  have hbx := hg1.block w.heap.size (by simp) (by simp)
  rw [heap_alloc_new] at hbx
  have c0 : w1.cell? ⟨w.heap.size, 0, none⟩ = some (.int .u8 o) := cell_of_heap hbx rfl
  have c1 : w1.cell? ⟨w.heap.size, 1, none⟩ = some (.slice a K cc) := cell_of_heap hbx rfl
  obtain ⟨H, eH⟩ : ∃ H, H = w.heap.size + 1 := ⟨_, rfl⟩
  rw [← eH] at hks1 ⊢
  have EH := Lib.hid eH
  have HKS1 := Lib.hid hks1
  have HB1 := Lib.hid hb1
  clear ho1 hg1 hks1 hb1 hbx eH
  go_wp2_with fail
  go_loopg [50] K (fun g s50 wr => ∃ (i : Nat) (ts : List Int), i ≤ K ∧ g = K - i ∧ s50 = .int .i64 i ∧ wr.cell? ⟨w.heap.size, 0, none⟩ = some (.int .u8 o) ∧ wr.cell? ⟨w.heap.size, 1, none⟩ = some (.slice a K cc) ∧ KSl wr H K i ts ∧ ET.typs cols (ks.take i) = some ts ∧ Below w.heap.size w wr)
  case atStart => exact ⟨0, [], Nat.zero_le _, rfl, rfl, c0, c1, HKS1.out, rfl, HB1.out⟩
  case round =>
    obtain ⟨i, ts, hi, rfl, rfl, d0, d1, hks, hts, hbr⟩ := hrel
    have HKSL := Lib.hid hks
    have HTS := Lib.hid hts
    clear c0 c1 hts
    by_cases hlt : i < K
    · obtain ⟨k, hk⟩ : ∃ k, ks[i]? = some k := ⟨ks[i]'(by rw [← EK.out]; exact hlt), List.getElem?_eq_getElem _⟩
      obtain ⟨b, off, rfl, -, hats⟩ := HKS.out (fun e => by simp only [ET.kids] at e; rw [e] at hk; simp at hk)
      obtain ⟨kv, hkc, hkat⟩ := hats.get hk
      obtain ⟨a', c', rfl⟩ := hkat.slice
      obtain ⟨k0, k1, k2, k3, k4, k5, k6⟩ := hkc.below hbr
      have hm := List.mem_of_getElem? hk
      have hct := fun W (hb : Below w.heap.size w W) => IH.out k hm (deep + 1) _ W (hkat.below hb) (HF.out k hm) (HG.out.2 k hm) (HW.out k hm) (HK.out.below hb)
      unfold ET.agg at hct
      have HCT := Lib.hid hct
      have HBR := Lib.hid hbr
      have HKX := Lib.hid hk
      have hH := hks.size
      have HHS := Lib.hid hH
      clear hats hkc hkat hct hbr hk hks
      go_wp2_with fail
      refine (HCT.out _ ?bb).mono ?_
      case bb => exact HBR.out.alloc HBR.out.size _
      rintro ev w2 ⟨v, rfl, hkv, hb2⟩
      have hbw : Below wr.heap.size wr w2 := (one_below wr _).trans (hb2.mono (by simp))
      have hk2 := HKSL.out.below hbw
      have e0 := hk2.at hlt
      have e1 := frozen_of_heap (o := i) hk2.2
      have f0 := cell_keep hbw d0
      have f1 := cell_keep hbw d1
      have hb3 : Below w.heap.size w w2 := HBR.out.trans (hbw.mono HBR.out.size)
      have hhs : H < w2.heap.size := hk2.size
      have HB3 := Lib.hid hb3
      have HK2 := Lib.hid hk2
      have F0 := Lib.hid f0
      have F1 := Lib.hid f1
      have hne : w.heap.size ≠ H := by have := EH.out; omega
      have HNE := Lib.hid hne
      have hpb : w.heap.size ≤ H := by have := EH.out; omega
      have HPB := Lib.hid hpb
      clear k0 k1 k2 k3 k4 k5 k6 d0 d1 hb2 hbw hk2 f0 f1 hb3 hne HCT hH HHS hpb
      cases hq : k.typ cols with
      | none =>
        have hn0 : R = none := by
          rw [ER.out]
          simp only [ET.typ]
          rw [if_neg (by omega), if_neg (by omega), if_neg (by omega), typs_none hm hq]
        subst hn0
        rw [hq] at hkv
        obtain ⟨g, rfl⟩ := hkv
        clear hq
        go_wp2_with fail
        go_ret2
        exact ⟨_, rfl, ⟨0, rfl⟩, HB3.out.setCell (p := ⟨H, i, none⟩) HPB.out _⟩
      | some t =>
        have hsn : ET.typs cols (ks.take (i + 1)) = some (ts ++ [t]) := by
          rw [List.take_succ_eq_append_getElem (List.getElem?_eq_some_iff.1 HKX.out).1, typs_snoc HTS.out, (List.getElem?_eq_some_iff.1 HKX.out).2, hq]
        have HSN := Lib.hid hsn
        rw [hq] at hkv
        obtain rfl : v = _ := hkv
        clear hsn hq
        go_wp2_with fail
        go_roundg (K - (i + 1))
        case measure => omega
        case rel => exact ⟨i + 1, ts ++ [t], by omega, rfl, by go_num, cell_elsewhere F0.out HNE.out, cell_elsewhere F1.out HNE.out, HK2.out.put hlt, HSN.out, HB3.out.setCell (p := ⟨H, i, none⟩) HPB.out _⟩
    · obtain rfl : i = K := by omega
      have HBR := Lib.hid hbr
      have hwl : ks.take i = ks := List.take_of_length_le (by rw [EK.out]; exact Nat.le_refl _)
      have hws := HTS.out
      rw [hwl] at hws
      have hrs : R = restT o ts := by
        rw [ER.out]
        simp only [ET.typ]
        rw [if_neg (by omega), if_neg (by omega), if_neg (by omega), hws]
      have HRS := Lib.hid hrs
      have hkd := hks.kinds
      have hr8 := typs_range HF.out hws
      have HR8 := Lib.hid hr8
      have HKD := Lib.hid hkd
      have htl : ts.length = i := hks.1
      have HTL := Lib.hid htl
      clear hwl hws hbr hrs hkd hks hr8 htl
      by_cases o20 : o = 20
      · subst o20
        obtain rfl : R = some 2 := HRS.out.trans (by simp [restT])
        go_wp2_with fail
        go_ret2
        exact ⟨_, rfl, kindIs _, HBR.out⟩
      have m20 : (o == 20) = false := by simpa using o20
      by_cases o22 : o = 22
      · subst o22
        obtain rfl : R = allT 1 ts := HRS.out.trans (by simp [restT])
        have hct := all_38 1 ts _ wr HKD.out ⟨by decide, by decide⟩ HR8.out (by rw [HTL.out]; omega)
        have HCT := Lib.hid hct
        clear hct
        go_wp2_with fail
        refine HCT.out.mono ?_
        rintro ev w2 ⟨rfl, rfl⟩
        cases hq : allT 1 ts with
        | none =>
          simp only [kindV]
          go_wp2_with fail
          go_ret2
          exact ⟨_, rfl, (by rw [hq]; exact ⟨0, rfl⟩), HBR.out⟩
        | some t =>
          simp only [kindV]
          go_wp2_with fail
          go_ret2
          exact ⟨_, rfl, (by rw [hq]; rfl), HBR.out⟩
      have m22 : (o == 22) = false := by simpa using o22
      by_cases o21 : o = 21
      · subst o21
        clear HTS HKS1
        go_wp2_with fail
        have hodd : i % 2 = 1 := by
          have hg := own_kids HG.out.1.1
          rw [← EK.out] at hg
          simp [kidsOk] at hg
          omega
        go_loopg [11, 12, 13] i (fun g s11 s12 s13 wq => ∃ (j : Nat), 2 * j < i ∧ g = i - j ∧ s13 = .int .i64 ((2 * j : Nat) : Int) ∧ Cas w wq H i ts s11 j ((whensT (ts.take (2 * j))).map kcell) s12 j ((thensT (ts.take (2 * j))).map kcell))
        case atStart => exact ⟨0, by omega, rfl, rfl, ⟨World.ownsRow_nil _ _ _ _, World.ownsRow_nil _ _ _ _, fun g e => by cases e⟩, HKSL.out, HBR.out, by have := EH.out; omega⟩
        case round =>
          obtain ⟨j, hj, rfl, rfl, hcas⟩ := hrel
          have HCAS := Lib.hid hcas
          clear hcas
          obtain ⟨p, ep⟩ : ∃ p, p = 2 * j := ⟨_, rfl⟩
          obtain ⟨XS, eX⟩ : ∃ XS, XS = (whensT (ts.take (2 * j))).map kcell := ⟨_, rfl⟩
          obtain ⟨YS, eY⟩ : ∃ YS, YS = (thensT (ts.take (2 * j))).map kcell := ⟨_, rfl⟩
          rw [← eX, ← eY] at HCAS
          have hpi : p < i := by omega
          have EX := Lib.hid eX
          have EY := Lib.hid eY
          have EP := Lib.hid ep
          rw [← ep]
          clear eX eY
          by_cases hlt : p + 1 < i
          · obtain ⟨tc, htc⟩ : ∃ tc, ts[p]? = some tc := ⟨ts[p]'(by have := HTL.out; omega), List.getElem?_eq_getElem _⟩
            obtain ⟨tv, htv⟩ : ∃ tv, ts[p + 1]? = some tv := ⟨ts[p + 1]'(by have := HTL.out; omega), List.getElem?_eq_getElem _⟩
            have HTC := Lib.hid htc
            have HTV := Lib.hid htv
            have hp2 : (ts.take (2 * j)).length = 2 * j := by have := HTL.out; rw [List.length_take]; omega
            have htk : ts.take (2 * (j + 1)) = ts.take (2 * j) ++ [tc, tv] := by
              have e1 : 2 * (j + 1) = 2 * j + 1 + 1 := by omega
              rw [ep] at htc htv
              rw [e1, List.take_add_one, List.take_add_one, htc, htv]
              simp
            have hnx : (whensT (ts.take (2 * (j + 1)))).map kcell = XS ++ [kcell tc] := by
              rw [htk, whens_two j _ _ _ hp2, EX.out, List.map_append]; rfl
            have hny : (thensT (ts.take (2 * (j + 1)))).map kcell = YS ++ [kcell tv] := by
              rw [htk, thens_two j _ _ _ hp2, EY.out, List.map_append]; rfl
            have HNX := Lib.hid hnx
            have HNY := Lib.hid hny
            have hil : i ≤ 140737488355328 := by omega
            have HNJ := Lib.hid (show 2 * (j + 1) < i by omega)
            obtain ⟨q, eq⟩ : ∃ q, p + 1 = q := ⟨_, rfl⟩
            have hwr : IntKind.i64.wrap ((p : Int) + 1) = (q : Int) := by rw [IntWalk.i64_in _ (by omega)]; omega
            have hqi : (q : Int) < (i : Int) := by omega
            rw [eq] at HTV
            clear htc htv ep hp2 htk hnx hny hlt eq
            go_wp2_with fail
            have hS : ∀ W, KSl W H i i ts → W.cell? ⟨H, p, none⟩ = some (.int .u8 tc) ∧ W.cell? ⟨H, q, none⟩ = some (.int .u8 tv) := fun W h => ⟨h.get HTC.out, h.get HTV.out⟩
            have HS := Lib.hid hS
            have CD := Lib.hid HCAS.out.drew
            obtain ⟨q0, q1⟩ := hS _ HCAS.out.ks
            clear hS
            refine wp_region_held_drew (S := fun W => W.cell? ⟨H, p, none⟩ = some (.int .u8 tc) ∧ W.cell? ⟨H, q, none⟩ = some (.int .u8 tv)) (by kernel_rfl) ⟨q0, q1⟩ (fun hHeld => ?_)
            refine wpAnyH_take (i := 0) (oi := ⟨some 87, _, _, _, _, _⟩) (v := ?_) rfl (by kernel_rfl) (by kernel_rfl) (by kernel_rfl) (fun _ _ _ h => h) (Or.inl ⟨by rfl, ?_⟩) (by assumption) ?_; rotate_left; (intro w hSw; (try dsimp only at hSw); go_simp; (try with_reducible rfl)); simp only [Act.put, List.setIfInBounds_toArray, List.set_cons_zero, List.set_cons_succ]
            refine wpAnyH_take (i := 1) (oi := ⟨some 88, _, _, _, _, _⟩) (v := ?_) rfl (by kernel_rfl) (by kernel_rfl) (by kernel_rfl) (fun _ _ _ h => h) (Or.inl ⟨by rfl, ?_⟩) (by assumption) ?_; rotate_left; (intro w hSw; (try dsimp only at hSw); go_simp; (try with_reducible rfl)); simp only [Act.put, List.setIfInBounds_toArray, List.set_cons_zero, List.set_cons_succ]
            refine wpAnyH_take (i := 2) (oi := ⟨some 89, _, _, _, _, _⟩) (v := ?_) rfl (by kernel_rfl) (by kernel_rfl) (by kernel_rfl) (fun _ _ _ h => h) (Or.inl ⟨by rfl, ?_⟩) (by assumption) ?_; rotate_left; (intro w hSw; (try dsimp only at hSw); go_simp; (try with_reducible rfl)); simp only [Act.put, List.setIfInBounds_toArray, List.set_cons_zero, List.set_cons_succ]
            refine wpAnyH_take (i := 3) (oi := ⟨some 90, _, _, _, _, _⟩) (v := ?_) rfl (by kernel_rfl) (by kernel_rfl) (by kernel_rfl) (fun _ _ _ h => h) (Or.inl ⟨by rfl, ?_⟩) (by assumption) ?_; rotate_left; (intro w hSw; (try dsimp only at hSw); go_simp; (try with_reducible rfl)); simp only [Act.put, List.setIfInBounds_toArray, List.set_cons_zero, List.set_cons_succ]
            refine wpAnyH_take (i := 4) (oi := ⟨some 91, _, _, _, _, _⟩) (v := ?_) rfl (by kernel_rfl) (by kernel_rfl) (by kernel_rfl) (fun _ _ _ h => h) (Or.inl ⟨by rfl, ?_⟩) (by assumption) ?_; rotate_left; (intro w hSw; (try dsimp only at hSw); go_simp; (try with_reducible rfl)); simp only [Act.put, List.setIfInBounds_toArray, List.set_cons_zero, List.set_cons_succ]
            refine wpAnyH_take (i := 7) (oi := ⟨some 94, _, _, _, _, _⟩) (v := ?_) rfl (by kernel_rfl) (by kernel_rfl) (by kernel_rfl) (fun _ _ _ h => h) (Or.inl ⟨by rfl, ?_⟩) (by assumption) ?_; rotate_left; (intro w hSw; (try dsimp only at hSw); go_simp; (try with_reducible rfl)); simp only [Act.put, List.setIfInBounds_toArray, List.set_cons_zero, List.set_cons_succ]
            refine wpAnyH_take (i := 8) (oi := ⟨some 95, _, _, _, _, _⟩) (v := ?_) rfl (by kernel_rfl) (by kernel_rfl) (by kernel_rfl) (fun _ _ _ h => h) (Or.inl ⟨by rfl, ?_⟩) (by assumption) ?_; rotate_left; (intro w hSw; (try dsimp only at hSw); go_simp; (try with_reducible rfl)); simp only [Act.put, List.setIfInBounds_toArray, List.set_cons_zero, List.set_cons_succ]
            refine wpAnyH_take (i := 9) (oi := ⟨some 96, _, _, _, _, _⟩) (v := ?_) rfl (by kernel_rfl) (by kernel_rfl) (by kernel_rfl) (fun _ _ _ h => h) (Or.inl ⟨by rfl, ?_⟩) (by assumption) ?_; rotate_left; (intro w hSw; (try dsimp only at hSw); go_simp; (try with_reducible rfl)); simp only [Act.put, List.setIfInBounds_toArray, List.set_cons_zero, List.set_cons_succ]
            refine wpAnyH_take (i := 10) (oi := ⟨some 97, _, _, _, _, _⟩) (v := ?_) rfl (by kernel_rfl) (by kernel_rfl) (by kernel_rfl) (fun _ _ _ h => h) (Or.inl ⟨by rfl, ?_⟩) (by assumption) ?_; rotate_left; (intro w hSw; (try dsimp only at hSw); go_simp; (try with_reducible rfl)); simp only [Act.put, List.setIfInBounds_toArray, List.set_cons_zero, List.set_cons_succ]
            refine wpAnyH_take (i := 11) (oi := ⟨some 98, _, _, _, _, _⟩) (v := ?_) rfl (by kernel_rfl) (by kernel_rfl) (by kernel_rfl) (fun _ _ _ h => h) (Or.inl ⟨by rfl, ?_⟩) (by assumption) ?_; rotate_left; (intro w hSw; (try dsimp only at hSw); go_simp; (try with_reducible rfl)); simp only [Act.put, List.setIfInBounds_toArray, List.set_cons_zero, List.set_cons_succ]
            refine wpAnyH_take (i := 12) (oi := ⟨some 99, _, _, _, _, _⟩) (v := ?_) rfl (by kernel_rfl) (by kernel_rfl) (by kernel_rfl) (fun _ _ _ h => h) (Or.inl ⟨by rfl, ?_⟩) (by assumption) ?_; rotate_left; (intro w hSw; (try dsimp only at hSw); go_simp; (try with_reducible rfl)); simp only [Act.put, List.setIfInBounds_toArray, List.set_cons_zero, List.set_cons_succ]
            refine wpAnyH_ready (rs := [5, 13]) (by kernel_rfl) (by simp) ?_
            refine AllReadyH.cons (o := ⟨some 92, _, _, _, _, _⟩) rfl (fun K hK => ?_) (AllReadyH.cons (o := ⟨some 100, _, _, _, _, _⟩) rfl (fun K hK => ?_) (AllReadyH.nil))
            · refine step_build rfl (.tmp 91) rfl tc (by simp [Act.eval]) ?_
              intro b1 W1 hW1 hb1
              have C1 := Lib.hid (show Cas w W1 H i ts u11 j XS u12 j YS by rw [hW1]; exact CD.out.alloc _)
              have P1 := Lib.hid (CD.out.pend (W' := W1) (t := tc) (b := b1) (by rw [hW1, hb1]; exact heap_alloc_new _ _) hb1)
              clear hW1 hb1
              refine hK.out _ _ (HS.out _ C1.out.ks) (fun hHeld => ?_)
              clear hK K
              simp only [Act.put, List.setIfInBounds_toArray, List.set_cons_zero, List.set_cons_succ]
              refine wpAnyH_ready (rs := [6, 13]) (by kernel_rfl) (by simp) ?_
              refine AllReadyH.cons (o := ⟨some 93, _, _, _, _, _⟩) rfl (fun K hK => ?_) (AllReadyH.cons (o := ⟨some 100, _, _, _, _, _⟩) rfl (fun K hK => ?_) (AllReadyH.nil))
              · refine step_append_lies _ rfl (.tmp 87) (.tmp 92) 76 rfl (H + 1) 23 i0 (.int .u8 0) 1 1 Tryz.underlying76 hi0 hz0 hz1 hz2 rfl (by decide) u11 j XS (by simp [Act.eval]) C1.out.two.own1 ⟨b1, 0, none⟩ 1 1 [kcell tc] (by simp [Act.eval]) rfl P1.out.news (by intro u hu; simp at hu; subst hu; rfl) (by decide) (by unfold maxLen; omega) (by omega) C1.out.size _ rfl ?_
                intro g2 cap2 W2 ho2 hg2 ha2 _
                have C2 := Lib.hid (C1.out.app1 ho2 hg2 ha2)
                clear ho2 hg2 ha2
                refine hK.out _ _ (HS.out _ C2.out.ks) (fun hHeld => ?_)
                clear hK K
                simp only [Act.put, List.setIfInBounds_toArray, List.set_cons_zero, List.set_cons_succ]
                refine wpAnyH_ready (rs := [13]) (by kernel_rfl) (by simp) ?_
                refine AllReadyH.cons (o := ⟨some 100, _, _, _, _, _⟩) rfl (fun K hK => ?_) (AllReadyH.nil)
                refine step_build rfl (.tmp 99) rfl tv (by simp [Act.eval]) ?_
                intro b3 W3 hW3 hb3
                have C3 := Lib.hid (show Cas w W3 H i ts (.slice (some ⟨g2, 0, none⟩) (j + 1) cap2) (j + 1) (XS ++ [kcell tc]) u12 j YS by rw [hW3]; exact C2.out.alloc _)
                have P3 := Lib.hid (C2.out.pend (W' := W3) (t := tv) (b := b3) (by rw [hW3, hb3]; exact heap_alloc_new _ _) hb3)
                clear hW3 hb3
                refine hK.out _ _ (HS.out _ C3.out.ks) (fun hHeld => ?_)
                clear hK K
                simp only [Act.put, List.setIfInBounds_toArray, List.set_cons_zero, List.set_cons_succ]
                refine wpAnyH_ready (rs := [14]) (by kernel_rfl) (by simp) ?_
                refine AllReadyH.cons (o := ⟨some 101, _, _, _, _, _⟩) rfl (fun K hK => ?_) (AllReadyH.nil)
                refine step_append_lies _ rfl (.tmp 94) (.tmp 100) 76 rfl (H + 1) 23 i0 (.int .u8 0) 1 1 Tryz.underlying76 hi0 hz0 hz1 hz2 rfl (by decide) u12 j YS (by simp [Act.eval]) C3.out.two.own2 ⟨b3, 0, none⟩ 1 1 [kcell tv] (by simp [Act.eval]) rfl P3.out.news (by intro u hu; simp at hu; subst hu; rfl) (by decide) (by unfold maxLen; omega) (by omega) C3.out.size _ rfl ?_
                intro g4 cap4 W4 ho4 hg4 ha4 _
                have C4 := Lib.hid (C3.out.app2 ho4 hg4 ha4)
                clear ho4 hg4 ha4
                refine hK.out _ _ (HS.out _ C4.out.ks) (fun hHeld => ?_)
                clear hK K
                simp only [Act.put, List.setIfInBounds_toArray, List.set_cons_zero, List.set_cons_succ]
                refine wpAnyH_take (i := 15) (oi := ⟨some 11, _, _, _, _, _⟩) (v := ?_) rfl (by kernel_rfl) (by kernel_rfl) (by kernel_rfl) (fun _ _ _ h => h) (Or.inl ⟨by rfl, ?_⟩) (by assumption) ?_; rotate_left; (intro w hSw; (try dsimp only at hSw); go_simp; (try with_reducible rfl)); simp only [Act.put, List.setIfInBounds_toArray, List.set_cons_zero, List.set_cons_succ]
                refine wpAnyH_take (i := 16) (oi := ⟨some 12, _, _, _, _, _⟩) (v := ?_) rfl (by kernel_rfl) (by kernel_rfl) (by kernel_rfl) (fun _ _ _ h => h) (Or.inl ⟨by rfl, ?_⟩) (by assumption) ?_; rotate_left; (intro w hSw; (try dsimp only at hSw); go_simp; (try with_reducible rfl)); simp only [Act.put, List.setIfInBounds_toArray, List.set_cons_zero, List.set_cons_succ]
                refine wpAnyH_done (by kernel_rfl) ?_ _
                have CE := C4
                clear HS CD
                go_wp2
                go_roundg (i - (j + 1))
                case measure => omega
                case rel => exact ⟨j + 1, HNJ.out, rfl, by rw [EP.out]; go_num, by rw [HNX.out, HNY.out]; exact CE.out⟩
              · refine step_build rfl (.tmp 99) rfl tv (by simp [Act.eval]) ?_
                intro b5 W5 hW5 hb5
                have C5 := Lib.hid (show Cas w W5 H i ts u11 j XS u12 j YS by rw [hW5]; exact C1.out.alloc _)
                have P5 := Lib.hid (C1.out.pend (W' := W5) (t := tv) (b := b5) (by rw [hW5, hb5]; exact heap_alloc_new _ _) hb5)
                have Q5 := Lib.hid (show Pend W5 u11 u12 b1 tc by rw [hW5]; exact P1.out.alloc _)
                clear hW5 hb5
                refine hK.out _ _ (HS.out _ C5.out.ks) (fun hHeld => ?_)
                clear hK K
                simp only [Act.put, List.setIfInBounds_toArray, List.set_cons_zero, List.set_cons_succ]
                refine wpAnyH_ready (rs := [6]) (by kernel_rfl) (by simp) ?_
                refine AllReadyH.cons (o := ⟨some 93, _, _, _, _, _⟩) rfl (fun K hK => ?_) (AllReadyH.nil)
                refine step_append_lies _ rfl (.tmp 87) (.tmp 92) 76 rfl (H + 1) 23 i0 (.int .u8 0) 1 1 Tryz.underlying76 hi0 hz0 hz1 hz2 rfl (by decide) u11 j XS (by simp [Act.eval]) C5.out.two.own1 ⟨b1, 0, none⟩ 1 1 [kcell tc] (by simp [Act.eval]) rfl Q5.out.news (by intro u hu; simp at hu; subst hu; rfl) (by decide) (by unfold maxLen; omega) (by omega) C5.out.size _ rfl ?_
                intro g6 cap6 W6 ho6 hg6 ha6 _
                have C6 := Lib.hid (C5.out.app1 ho6 hg6 ha6)
                have Q6 := Lib.hid (P5.out.app1 (n := j + 1) (cap := cap6) hg6 ha6)
                clear ho6 hg6 ha6
                refine hK.out _ _ (HS.out _ C6.out.ks) (fun hHeld => ?_)
                clear hK K
                simp only [Act.put, List.setIfInBounds_toArray, List.set_cons_zero, List.set_cons_succ]
                refine wpAnyH_ready (rs := [14]) (by kernel_rfl) (by simp) ?_
                refine AllReadyH.cons (o := ⟨some 101, _, _, _, _, _⟩) rfl (fun K hK => ?_) (AllReadyH.nil)
                refine step_append_lies _ rfl (.tmp 94) (.tmp 100) 76 rfl (H + 1) 23 i0 (.int .u8 0) 1 1 Tryz.underlying76 hi0 hz0 hz1 hz2 rfl (by decide) u12 j YS (by simp [Act.eval]) C6.out.two.own2 ⟨b5, 0, none⟩ 1 1 [kcell tv] (by simp [Act.eval]) rfl Q6.out.news (by intro u hu; simp at hu; subst hu; rfl) (by decide) (by unfold maxLen; omega) (by omega) C6.out.size _ rfl ?_
                intro g7 cap7 W7 ho7 hg7 ha7 _
                have C7 := Lib.hid (C6.out.app2 ho7 hg7 ha7)
                clear ho7 hg7 ha7
                refine hK.out _ _ (HS.out _ C7.out.ks) (fun hHeld => ?_)
                clear hK K
                simp only [Act.put, List.setIfInBounds_toArray, List.set_cons_zero, List.set_cons_succ]
                refine wpAnyH_take (i := 15) (oi := ⟨some 11, _, _, _, _, _⟩) (v := ?_) rfl (by kernel_rfl) (by kernel_rfl) (by kernel_rfl) (fun _ _ _ h => h) (Or.inl ⟨by rfl, ?_⟩) (by assumption) ?_; rotate_left; (intro w hSw; (try dsimp only at hSw); go_simp; (try with_reducible rfl)); simp only [Act.put, List.setIfInBounds_toArray, List.set_cons_zero, List.set_cons_succ]
                refine wpAnyH_take (i := 16) (oi := ⟨some 12, _, _, _, _, _⟩) (v := ?_) rfl (by kernel_rfl) (by kernel_rfl) (by kernel_rfl) (fun _ _ _ h => h) (Or.inl ⟨by rfl, ?_⟩) (by assumption) ?_; rotate_left; (intro w hSw; (try dsimp only at hSw); go_simp; (try with_reducible rfl)); simp only [Act.put, List.setIfInBounds_toArray, List.set_cons_zero, List.set_cons_succ]
                refine wpAnyH_done (by kernel_rfl) ?_ _
                have CE := C7
                clear HS CD
                go_wp2
                go_roundg (i - (j + 1))
                case measure => omega
                case rel => exact ⟨j + 1, HNJ.out, rfl, by rw [EP.out]; go_num, by rw [HNX.out, HNY.out]; exact CE.out⟩
            · refine step_build rfl (.tmp 99) rfl tv (by simp [Act.eval]) ?_
              intro b8 W8 hW8 hb8
              have C8 := Lib.hid (show Cas w W8 H i ts u11 j XS u12 j YS by rw [hW8]; exact CD.out.alloc _)
              have P8 := Lib.hid (CD.out.pend (W' := W8) (t := tv) (b := b8) (by rw [hW8, hb8]; exact heap_alloc_new _ _) hb8)
              clear hW8 hb8
              refine hK.out _ _ (HS.out _ C8.out.ks) (fun hHeld => ?_)
              clear hK K
              simp only [Act.put, List.setIfInBounds_toArray, List.set_cons_zero, List.set_cons_succ]
              refine wpAnyH_ready (rs := [5]) (by kernel_rfl) (by simp) ?_
              refine AllReadyH.cons (o := ⟨some 92, _, _, _, _, _⟩) rfl (fun K hK => ?_) (AllReadyH.nil)
              refine step_build rfl (.tmp 91) rfl tc (by simp [Act.eval]) ?_
              intro b9 W9 hW9 hb9
              have C9 := Lib.hid (show Cas w W9 H i ts u11 j XS u12 j YS by rw [hW9]; exact C8.out.alloc _)
              have P9 := Lib.hid (C8.out.pend (W' := W9) (t := tc) (b := b9) (by rw [hW9, hb9]; exact heap_alloc_new _ _) hb9)
              have Q9 := Lib.hid (show Pend W9 u11 u12 b8 tv by rw [hW9]; exact P8.out.alloc _)
              clear hW9 hb9
              refine hK.out _ _ (HS.out _ C9.out.ks) (fun hHeld => ?_)
              clear hK K
              simp only [Act.put, List.setIfInBounds_toArray, List.set_cons_zero, List.set_cons_succ]
              refine wpAnyH_ready (rs := [6]) (by kernel_rfl) (by simp) ?_
              refine AllReadyH.cons (o := ⟨some 93, _, _, _, _, _⟩) rfl (fun K hK => ?_) (AllReadyH.nil)
              refine step_append_lies _ rfl (.tmp 87) (.tmp 92) 76 rfl (H + 1) 23 i0 (.int .u8 0) 1 1 Tryz.underlying76 hi0 hz0 hz1 hz2 rfl (by decide) u11 j XS (by simp [Act.eval]) C9.out.two.own1 ⟨b9, 0, none⟩ 1 1 [kcell tc] (by simp [Act.eval]) rfl P9.out.news (by intro u hu; simp at hu; subst hu; rfl) (by decide) (by unfold maxLen; omega) (by omega) C9.out.size _ rfl ?_
              intro g10 cap10 W10 ho10 hg10 ha10 _
              have C10 := Lib.hid (C9.out.app1 ho10 hg10 ha10)
              have Q10 := Lib.hid (Q9.out.app1 (n := j + 1) (cap := cap10) hg10 ha10)
              clear ho10 hg10 ha10
              refine hK.out _ _ (HS.out _ C10.out.ks) (fun hHeld => ?_)
              clear hK K
              simp only [Act.put, List.setIfInBounds_toArray, List.set_cons_zero, List.set_cons_succ]
              refine wpAnyH_ready (rs := [14]) (by kernel_rfl) (by simp) ?_
              refine AllReadyH.cons (o := ⟨some 101, _, _, _, _, _⟩) rfl (fun K hK => ?_) (AllReadyH.nil)
              refine step_append_lies _ rfl (.tmp 94) (.tmp 100) 76 rfl (H + 1) 23 i0 (.int .u8 0) 1 1 Tryz.underlying76 hi0 hz0 hz1 hz2 rfl (by decide) u12 j YS (by simp [Act.eval]) C10.out.two.own2 ⟨b8, 0, none⟩ 1 1 [kcell tv] (by simp [Act.eval]) rfl Q10.out.news (by intro u hu; simp at hu; subst hu; rfl) (by decide) (by unfold maxLen; omega) (by omega) C10.out.size _ rfl ?_
              intro g11 cap11 W11 ho11 hg11 ha11 _
              have C11 := Lib.hid (C10.out.app2 ho11 hg11 ha11)
              clear ho11 hg11 ha11
              refine hK.out _ _ (HS.out _ C11.out.ks) (fun hHeld => ?_)
              clear hK K
              simp only [Act.put, List.setIfInBounds_toArray, List.set_cons_zero, List.set_cons_succ]
              refine wpAnyH_take (i := 15) (oi := ⟨some 11, _, _, _, _, _⟩) (v := ?_) rfl (by kernel_rfl) (by kernel_rfl) (by kernel_rfl) (fun _ _ _ h => h) (Or.inl ⟨by rfl, ?_⟩) (by assumption) ?_; rotate_left; (intro w hSw; (try dsimp only at hSw); go_simp; (try with_reducible rfl)); simp only [Act.put, List.setIfInBounds_toArray, List.set_cons_zero, List.set_cons_succ]
              refine wpAnyH_take (i := 16) (oi := ⟨some 12, _, _, _, _, _⟩) (v := ?_) rfl (by kernel_rfl) (by kernel_rfl) (by kernel_rfl) (fun _ _ _ h => h) (Or.inl ⟨by rfl, ?_⟩) (by assumption) ?_; rotate_left; (intro w hSw; (try dsimp only at hSw); go_simp; (try with_reducible rfl)); simp only [Act.put, List.setIfInBounds_toArray, List.set_cons_zero, List.set_cons_succ]
              refine wpAnyH_done (by kernel_rfl) ?_ _
              have CE := C11
              clear HS CD
              go_wp2
              go_roundg (i - (j + 1))
              case measure => omega
              case rel => exact ⟨j + 1, HNJ.out, rfl, by rw [EP.out]; go_num, by rw [HNX.out, HNY.out]; exact CE.out⟩
          · have hip : i = p + 1 := by omega
            obtain ⟨v, hv⟩ : ∃ v, ts[p]? = some v := ⟨ts[p]'(by have := HTL.out; omega), List.getElem?_eq_getElem _⟩
            have htk : ts = ts.take (2 * j) ++ [v] := by
              have hl := HTL.out
              conv => lhs; rw [← List.take_of_length_le (l := ts) (i := p + 1) (by omega)]
              rw [List.take_add_one, hv, ep]; rfl
            have hp2 : (ts.take (2 * j)).length = 2 * j := by have := HTL.out; rw [List.length_take]; omega
            have hwh : whensT ts = whensT (ts.take (2 * j)) := by conv => lhs; rw [htk]; rw [whens_one j _ _ hp2]
            have hth : thensT ts = thensT (ts.take (2 * j)) ++ [v] := by conv => lhs; rw [htk]; rw [thens_one j _ _ hp2]
            have hvm : v ∈ ts := List.mem_of_getElem? hv
            have HVM := Lib.hid hvm
            have hq0 := HCAS.out.ks.get hv
            have ho1 := HCAS.out.two.own1
            have hlx := ho1.1
            rw [EX.out, ← hwh] at ho1 hlx
            simp only [List.length_map, Nat.mul_one] at hlx
            have hly := HCAS.out.two.own2.1
            rw [EY.out] at hly
            simp only [List.length_map, Nat.mul_one] at hly
            have hyy : YS ++ [kcell v] = (thensT ts).map kcell := by rw [EY.out, hth, List.map_append]; rfl
            have hct := all_38 2 (whensT ts) _ wr (rowKinds ho1) ⟨by decide, by decide⟩ (fun x hx => HR8.out x (whens_mem _ _ (Nat.le_refl _) x hx)) (by omega)
            have hlt2 : (thensT ts).length ≤ 140737488355328 := by rw [hth, List.length_append, hly]; simp; omega
            have HCT := Lib.hid hct
            have HLT2 := Lib.hid hlt2
            have HYY := Lib.hid hyy
            have hwr : IntKind.i64.wrap ((i : Int) - 1) = (p : Int) := by rw [IntWalk.i64_in _ (by omega)]; omega
            have hp0 : (p : Int) < (i : Int) := by omega
            have hrs := HRS.out
            unfold restT at hrs
            rw [if_neg (by decide), if_neg (by decide), if_pos rfl] at hrs
            have HR2 := Lib.hid hrs
            have hsz := HCAS.out.size
            have hj9 : j ≤ 140737488355000 := by omega
            clear hv htk hp2 hwh hth hvm ho1 hlx hly hyy hct hlt2 hrs ep HRS HKD
            go_wp2_with fail
            refine HCT.out.mono ?_
            rintro ev w2 ⟨rfl, rfl⟩
            have hrs := HR2.out
            cases hq : allT 2 (whensT ts) with
            | none =>
              rw [hq] at hrs
              subst hrs
              simp only [kindV]
              clear hq
              go_wp2_with fail
              go_ret2
              exact ⟨_, rfl, ⟨0, rfl⟩, HCAS.out.bel⟩
            | some t9 =>
              rw [hq] at hrs
              have HR2 := Lib.hid hrs
              simp only [kindV]
              clear hq hrs
              go_wp2_with (at_builtin; go_must (refine wpList_append_lies _ rfl _ _ 76 rfl (H + 1) 23 i0 _ 1 1 Tryz.underlying76 hi0 hz0 hz1 hz2 rfl (by decide) u12 j YS rfl (HCAS.out.two.own2.alloc _) ⟨w2.heap.size, 0, none⟩ 1 1 [kcell v] rfl rfl ?c1 ?c2 (by decide) ?c3 ?c4 ?c5 _ rfl ?_))
              case c1 => exact fun _ _ hj => hj
              case c2 => rfl
              case c3 => unfold maxLen; omega
              case c4 => omega
              case c5 => first | omega | (simp; omega)
              intro g cap w5 hown5 hgrow hat5 _
              have hbl := ((HCAS.out.alloc (.cells #[kcell v] 23)).app2 hown5 hgrow (by rw [World.size_alloc]; exact hat5)).bel
              rw [HYY.out] at hown5
              have hct := all_38 1 (thensT ts) _ w5 (rowKinds hown5) ⟨by decide, by decide⟩ (fun x hx => HR8.out x (thens_mem _ _ (Nat.le_refl _) x hx)) HLT2.out
              have HCT := Lib.hid hct
              have HBL := Lib.hid hbl
              clear hct hbl hown5 hgrow hat5
              go_wp2_with fail
              refine HCT.out.mono ?_
              rintro ev w6 ⟨rfl, rfl⟩
              have hrs := HR2.out
              cases hq : allT 1 (thensT ts) with
              | none =>
                rw [hq] at hrs
                subst hrs
                simp only [kindV]
                clear hq
                go_wp2_with fail
                go_ret2
                exact ⟨_, rfl, ⟨0, rfl⟩, HBL.out⟩
              | some t8 =>
                rw [hq] at hrs
                subst hrs
                simp only [kindV]
                clear hq
                go_wp2_with fail
                go_ret2
                exact ⟨_, rfl, rfl, HBL.out⟩
      have m21 : (o == 21) = false := by simpa using o21
      have hrt : R = match allT (asksT o) ts with
        | none => none
        | some _ => some (givesT o) := by
        rw [HRS.out]; unfold restT; rw [if_neg o20, if_neg o22, if_neg o21]; try (cases allT (asksT o) ts <;> rfl)
      have HRT := Lib.hid hrt
      have har : 0 ≤ asksT o ∧ asksT o ≤ 255 := by
        unfold asksT
        split
        · omega
        · split
          · omega
          · split <;> omega
      have ht9 := types_39 o wr (by omega)
      have HT9 := Lib.hid ht9
      have hct := all_38 (asksT o) ts _ wr HKD.out har HR8.out (by rw [HTL.out]; omega)
      have HCT := Lib.hid hct
      clear hct ht9 hrt har
      obtain ⟨A, eA⟩ : ∃ A, A = asksT o := ⟨_, rfl⟩
      obtain ⟨G, eG⟩ : ∃ G, G = givesT o := ⟨_, rfl⟩
      rw [← eA, ← eG] at HT9
      rw [← eA] at HCT
      rw [← eA, ← eG] at HRT
      clear eA eG
      go_wp2_with fail
      refine HT9.out.mono ?_
      rintro ev w2 ⟨rfl, rfl⟩
      go_wp2_with fail
      refine HCT.out.mono ?_
      rintro ev w3 ⟨rfl, rfl⟩
      have hrt := HRT.out
      cases hq : allT A ts with
      | none =>
        rw [hq] at hrt
        subst hrt
        simp only [kindV]
        go_wp2_with fail
        go_ret2
        exact ⟨_, rfl, ⟨G, rfl⟩, HBR.out⟩
      | some t =>
        rw [hq] at hrt
        subst hrt
        simp only [kindV]
        go_wp2_with fail
        go_ret2
        exact ⟨_, rfl, rfl, HBR.out⟩
end Go.Proofs.YtolikaginhjbhaaGreatDoor
/- expr.typed: at every expression. -/
namespace Go.Proofs.YtolikaginhjbhaaGreatDoor
open Go.RowKit Go.Pen

theorem typed_28 (cols : List Int) (vc : Value) (hcr : ∀ x ∈ cols, 0 ≤ x ∧ x ≤ 255) : ∀ e : ET, TyOK cols vc e := by
  refine ET.ind fun o c d ks ih => ?_
  by_cases h1 : o = 1
  · subst h1; exact typed_col cols vc hcr c d ks
  by_cases h2 : o = 2
  · subst h2; exact typed_lit cols vc c d ks
  by_cases h3 : o = 23
  · subst h3; exact typed_fail cols vc c d ks
  by_cases h4 : 3 ≤ o ∧ o ≤ 22
  · exact typed_op cols vc o c d ks ih h4
  · intro deep kv w hat hfit hg
    exfalso
    simp only [ET.good, Bool.and_eq_true] at hg
    have h := own_kids hg.1.1
    simp only [kidsOk] at h
    rw [if_neg (by omega), if_neg (by omega), if_neg (by omega), if_neg (by omega)] at h
    simp only [Bool.and_eq_true, decide_eq_true_eq] at h
    omega
end Go.Proofs.YtolikaginhjbhaaGreatDoor
/- expr.Safe. -/
namespace Go.Proofs.YtolikaginhjbhaaGreatDoor
open Go.RowKit Go.Pen Go.Shelf
attribute [local go_sem] Oper.semAt_some

/-- is a part such that it may fail? -/
def SfHit (x : Part) : Prop := 60 < x.deep ∨ (3 ≤ x.e.op ∧ x.e.op ≤ 9) ∨ x.e.op = 23
structure SfAll (ps : List Part) : Prop where
  «at» : ∀ x ∈ ps, ¬ SfHit x
structure SfNo (ps : List Part) : Prop where
  out : ¬ ∀ x ∈ ps, ¬ SfHit x
theorem SfAll.nil : SfAll [] := ⟨fun x hx => by cases hx⟩
theorem SfAll.snoc {ps : List Part} {x : Part} (h : SfAll ps) (hx : ¬ SfHit x) : SfAll (ps ++ [x]) := ⟨fun y hy => by
  rcases List.mem_append.1 hy with hy | hy
  · exact h.at y hy
  · simp at hy; subst hy; exact hx⟩
theorem SfNo.snoc {ps : List Part} {x : Part} (hx : SfHit x) : SfNo (ps ++ [x]) := ⟨fun h => h x (by simp) hx⟩
theorem sf_pre : ∀ (e : ET) (deep : Nat), e.sf deep = true ↔ ∀ x ∈ e.pre deep, ¬ (60 < x.1 ∨ (3 ≤ x.2.op ∧ x.2.op ≤ 9) ∨ x.2.op = 23) := by
  refine ET.ind fun o c d ks ih deep => ?_
  simp only [ET.sf, ET.pre, List.mem_cons]
  by_cases h : 60 < deep ∨ (3 ≤ o ∧ o ≤ 9) ∨ o = 23
  · rw [if_pos h]
    exact ⟨fun h => (by cases h), fun hx => absurd h (hx _ (.inl rfl))⟩
  · rw [if_neg h, sfs_iff, if_pos (by omega)]
    constructor
    · rintro hs x (rfl | hx)
      · exact h
      · obtain ⟨k, hk, hx⟩ := ET.mem_pres.1 hx
        exact (ih k hk (deep + 1)).1 (hs k hk) x hx
    · intro hx k hk
      exact (ih k hk (deep + 1)).2 fun x hxk => hx x (.inr (ET.mem_pres.2 ⟨k, hk, hxk⟩))

set_option maxRecDepth 100000 in
set_option maxHeartbeats 1000000 in
theorem safe_34 (e : ET) (a : Option Addr) (cc : Nat) (w : World) (hfit : e.fits) (hat : e.At w (.slice a e.kids.length cc)) :
    Calls Tryz.prog 34 #[e.agg (.slice a e.kids.length cc)] w fun ev w' => ev = .returned (.bool (e.sf 1)) ∧ Below w.heap.size w w' := by
  obtain ⟨R, eR⟩ : ∃ R : Bool, R = e.sf 1 := ⟨_, rfl⟩
  rw [← eR]
  have ER := Lib.hid eR
  clear eR
  obtain ⟨F, eF⟩ : ∃ F, F = Fence.wide := ⟨_, rfl⟩
  have hd : F.depth = none := by rw [eF]; rfl
  have hF : ∀ f, F.fn f := fun f => by rw [eF]; trivial
  have hro : F.round = none := by rw [eF]; rfl
  obtain ⟨n, hn⟩ : ∃ n : Nat, 4 ≤ n := ⟨4, Nat.le_refl _⟩
  refine (callsIn_wide (n := n)).1 ?_
  rw [← eF]
  clear eF
  have h1 : 1 ≤ n := by omega
  have hp := fun W => parts_50 F (n - 1) (hF 50) hro e a cc W
  unfold ET.agg ET.cells at hp
  have HP := Lib.hid hp
  have HAT := Lib.hid hat
  have HFIT := Lib.hid hfit
  clear hp hat hfit
  unfold ET.agg
  refine callsIn_of_wp_marks Tryz.func34 rfl (hF 34) ?_ hro
  simp only [Tryz.ntmps34, List.size_toArray, List.length_cons, List.length_nil, Nat.reduceAdd, Nat.reduceSub, Array.replicate_succ, Array.replicate_zero, List.push_toArray, List.append_toArray, List.nil_append, List.cons_append]
  gi_wp2_with (gi_at_call 50; refine (HP.out _).mono ?_; rintro ev w' ⟨rfl, rfl⟩)
  have t1 := heap_alloc_new (w.alloc (.cells #[.int .u8 e.op, .slice a e.kids.length cc, .int .i64 e.col, .int .u8 e.lit.kind, .bool e.lit.bool, .int .i64 e.lit.int, .string e.lit.text] 27)) (.cells #[.bool false] 4)
  rw [World.size_alloc] at t1
  obtain ⟨H, eH⟩ : ∃ H, H = w.heap.size := ⟨_, rfl⟩
  obtain ⟨W0, hW0⟩ : ∃ W0, W0 = ((w.alloc (.cells #[.int .u8 e.op, .slice a e.kids.length cc, .int .i64 e.col, .int .u8 e.lit.kind, .bool e.lit.bool, .int .i64 e.lit.int, .string e.lit.text] 27)).alloc (.cells #[.bool false] 4)).alloc (.cells #[.int .u8 e.op, .slice a e.kids.length cc, .int .i64 e.col, .int .u8 e.lit.kind, .bool e.lit.bool, .int .i64 e.lit.int, .string e.lit.text] 27) := ⟨_, rfl⟩
  obtain ⟨L, eL⟩ : ∃ L, L = H + 1 + 1 := ⟨_, rfl⟩
  have hs0 : W0.heap.size = L + 1 := by rw [hW0, eL, eH]; simp
  have hb0 : Below w.heap.size w W0 := by rw [hW0]; exact three_below _ _ _ _
  have r2 : W0.heap[H + 1]? = some (.cells #[.bool false] 4 (0, 0)) := by
    rw [hW0, eH]; exact (Below.heap_alloc _ _ _ (by simp)).trans t1
  have r3 : W0.heap[L]? = some (.cells #[.int .u8 e.op, .slice a e.kids.length cc, .int .i64 e.col, .int .u8 e.lit.kind, .bool e.lit.bool, .int .i64 e.lit.int, .string e.lit.text] 27 (0, 0)) := by
    have h := heap_alloc_new ((w.alloc (.cells #[.int .u8 e.op, .slice a e.kids.length cc, .int .i64 e.col, .int .u8 e.lit.kind, .bool e.lit.bool, .int .i64 e.lit.int, .string e.lit.text] 27)).alloc (.cells #[.bool false] 4)) (.cells #[.int .u8 e.op, .slice a e.kids.length cc, .int .i64 e.col, .int .u8 e.lit.kind, .bool e.lit.bool, .int .i64 e.lit.int, .string e.lit.text] 27)
    rw [World.size_alloc, World.size_alloc] at h
    rw [hW0, eL, eH]; exact h
  rw [← hW0, ← eH]
  have EL := Lib.hid eL
  rw [← eL]
  clear t1
  have HS0 := Lib.hid hs0
  have HB0 := Lib.hid hb0
  have EH := Lib.hid eH
  have R2 := Lib.hid r2
  have R3 := Lib.hid r3
  clear hW0 hs0 hb0 eH eL r2 r3
  refine wpIn_rangeFunc_ownH hro h1 (gf := 94) (lb := #[.pointer (some ⟨L, 0, none⟩)]) rfl (hF 94) (enters_of Tryz.func94 (by kernel_rfl) rfl)
    (parts_stops F hd (n - 1) (hF 94) (hF 95) hro L (fun g => g = H + 1) e a cc HFIT.out W0 ?kc ?sl ?on) (fun h k => h.trans k) ?kb (Below.refl _ _) (fun _ => rfl)
    (fun pre W => W.heap[H + 1]? = some (.cells #[.bool false] 4 (0, 0)) ∧ SfAll pre ∧ Below w.heap.size w W ∧ W0.heap.size ≤ W.heap.size)
    (fun c pre W => c = .ret ∧ W.heap[H + 1]? = some (.cells #[.bool false] 4 (0, 0)) ∧ SfNo pre ∧ Below w.heap.size w W)
    ?oi ?oix ⟨R2.out, SfAll.nil, HB0.out, Nat.le_refl _⟩
    (fun x a' W => ∃ Bx, W0.heap.size ≤ Bx ∧ W.heap[Bx]? = some (.cells #[.int .u8 x.e.op, .slice x.a x.e.kids.length x.c, .int .i64 x.e.col, .int .u8 x.e.lit.kind, .bool x.e.lit.bool, .int .i64 x.e.lit.int, .string x.e.lit.text] 27 (0, 0)) ∧ a' = { tmps := #[.agg #[.int .u8 e.op, .slice a e.kids.length cc, .int .i64 e.col, .int .u8 e.lit.kind, .bool e.lit.bool, .int .i64 e.lit.int, .string e.lit.text], .pointer (some ⟨H, 0, none⟩), .pointer (some ⟨H + 1, 0, none⟩), .int .i64 x.deep, .pointer (some ⟨Bx, 0, none⟩), .agg #[.int .u8 e.op, .slice a e.kids.length cc, .int .i64 e.col, .int .u8 e.lit.kind, .bool e.lit.bool, .int .i64 e.lit.int, .string e.lit.text], .func (.func 94) #[] #[.pointer (some ⟨L, 0, none⟩)], .int .i64 x.deep, .agg #[.int .u8 x.e.op, .slice x.a x.e.kids.length x.c, .int .i64 x.e.col, .int .u8 x.e.lit.kind, .bool x.e.lit.bool, .int .i64 x.e.lit.int, .string x.e.lit.text], undef, undef, undef, undef, undef, undef, undef, undef, undef, undef, undef, undef, undef, undef, undef, undef, undef], defers := [] }) ?ax ?assign ?body ?done ?stop
  case kc =>
    exact ⟨cell_of_heap R3.out rfl, cell_of_heap R3.out rfl, cell_of_heap R3.out rfl, cell_of_heap R3.out rfl, cell_of_heap R3.out rfl, cell_of_heap R3.out rfl, cell_of_heap R3.out rfl⟩
  case sl =>
    intro g hg
    have := HS0.out
    have := EL.out
    subst hg
    omega
  case on =>
    refine (HAT.out.lt.below HB0.out).wide fun g hg h => ?_
    have := EH.out
    subst h
    omega
  case kb =>
    intro W l' oo oo' _ hl hc _
    exact kps_putObj hl hc
  case oi =>
    intro pre W W' row hI hg hr
    obtain ⟨i2, i3, i4, i5⟩ := hI
    have hs := HS0.out
    have hh := EH.out
    have hl := EL.out
    exact ⟨(hg.block _ (lt_of_heap i2) fun er => by have := (hr _ er.symm).1; omega).trans i2, i3, i4.grown hg i4.size fun g er => by (have := (hr g er).1; omega), Nat.le_trans i5 hg.size⟩
  case oix =>
    intro c pre W W' row hI hg hr
    obtain ⟨i0, i1, i2, i3⟩ := hI
    have hs := HS0.out
    have hh := EH.out
    have hl := EL.out
    exact ⟨i0, (hg.block _ (lt_of_heap i1) fun er => by have := (hr _ er.symm).1; omega).trans i1, i2, i3.grown hg i3.size fun g er => by have := (hr g er).1; omega⟩
  case ax =>
    intro x a' _ W W' row hI hg hr
    obtain ⟨Bx, b1, b2, b3⟩ := hI
    refine ⟨Bx, b1, (hg.block _ (lt_of_heap b2) fun er => ?_).trans b2, b3⟩
    obtain ⟨-, o, ho, hc⟩ := hr _ er.symm
    rw [b2] at ho
    cases ho
    cases hc
  case assign =>
    intro l pre x W K hI hK
    unfold Part.encs ET.agg Part.kv
    gi_wp2
    obtain ⟨i2, i3, i4, i5⟩ := hI
    exact hK _ _ ((KeepsOthers.alloc _ _).from _) (KpS.alloc _ _ _) ⟨(Below.heap_alloc _ _ _ (lt_of_heap i2)).trans i2, i3, i4.alloc i4.size _, by (rw [World.size_alloc]; omega)⟩ ⟨W.heap.size, i5, heap_alloc_new _ _, rfl⟩
  case body =>
    intro l pre x a' W hl hlr hI hA hlt
    obtain ⟨i2, i3, i4, i5⟩ := hI
    obtain ⟨Bx, b1, b2, rfl⟩ := hA
    have z0 : W.cell? ⟨H + 1, 0, none⟩ = some (.bool false) := cell_of_heap i2 rfl
    have z1 : W.frozen? ⟨H + 1, 0, none⟩ = false := frozen_of_heap i2
    have x0 : W.cell? ⟨Bx, 0, none⟩ = some (.int .u8 x.e.op) := cell_of_heap b2 rfl
    have hgo : ¬ SfHit x → KeepsFrom W0.heap.size W W ∧ KpS (fun g => g = H + 1) W W ∧ W.heap[H + 1]? = some (.cells #[.bool false] 4 (0, 0)) ∧ SfAll (pre ++ [x]) ∧ Below w.heap.size w W ∧ W0.heap.size ≤ W.heap.size := fun h => ⟨KeepsFrom.refl _ _, KpS.refl _ _, i2, i3.snoc h, i4, i5⟩
    have hlv : SfHit x → KeepsFrom W0.heap.size W (W.setCell ⟨H + 1, 0, none⟩ (.bool false)) ∧ ((W.setCell ⟨H + 1, 0, none⟩ (.bool false)).heap[H + 1]? = some (.cells #[.bool false] 4 (0, 0)) ∧ SfNo (pre ++ [x]) ∧ Below w.heap.size w (W.setCell ⟨H + 1, 0, none⟩ (.bool false))) := fun h =>
      ⟨(KeepsOthers.setCell _ _ _).from _, (by rw [heap_set_same i2]; rfl), SfNo.snoc h, i4.setCell (p := ⟨H + 1, 0, none⟩) (by have := EH.out; show w.heap.size ≤ H + 1; omega) _⟩
    have HGO := Lib.hid hgo
    have HLV := Lib.hid hlv
    clear i2 i3 i4 b2 hgo hlv
    gi_wp2
    all_goals first | exact HGO.out (by unfold SfHit; (try simp only [beq_eq_false_iff_ne] at *); omega) | (have hx : SfHit x := (by unfold SfHit; (try simp only [beq_iff_eq] at *); omega); exact ⟨(HLV.out hx).1, rfl, (HLV.out hx).2⟩)
  case done =>
    intro D xs W hD hS hI hK
    obtain ⟨i2, i3, i4, i5⟩ := hI
    have hwi : e.sf 1 = true := (sf_pre e 1).2 (by
      rw [← hS]
      intro y hy
      obtain ⟨x, hx, rfl⟩ := List.mem_map.1 hy
      exact i3.at x hx)
    have c1 : W.cell? ⟨H + 1, 0, none⟩ = some (.bool false) := cell_of_heap i2 rfl
    have f1 : W.frozen? ⟨H + 1, 0, none⟩ = false := frozen_of_heap i2
    have hR := ER.out
    rw [hwi] at hR
    obtain rfl : R = true := hR
    gi_wp2
    refine ⟨by simp, .inl ⟨_, _, rfl, run_takeDeferred ((KeepsOthers.setCell _ _ _).same D _ hK rfl), ?_⟩⟩
    have hs := HS0.out
    have hh := EH.out
    have hl := EL.out
    have hne : D ≠ H + 1 := by omega
    have c5 : ((W.setCell ⟨H + 1, 0, none⟩ (.bool true)).putObj D (Obj.deferred none)).cell? ⟨H + 1, 0, none⟩ = some (.bool true) :=
      cell_kept (World.cell?_setCell_same' _ _ _ (by rw [c1]; rfl)) (grownBy_putObj' _ D (.deferred none)) (fun r er => by cases er; exact ⟨_, (KeepsOthers.setCell _ _ _).same D _ hK rfl, rfl⟩)
    refine ⟨_, by simp [results, Tryz.f34, go_sem, c5], rfl, ?_⟩
    exact ((i4.setCell (p := ⟨H + 1, 0, none⟩) (by show w.heap.size ≤ H + 1; omega) _)).trans (belowK_b (w := W0) (by omega) _ D _ _ hD ((KeepsOthers.setCell _ _ _).same D _ hK rfl) rfl rfl)
  case stop =>
    intro D c pre W hD hS hI hK
    obtain ⟨rfl, i1, i2, i3⟩ := hI
    have hwi : e.sf 1 = false := by
      cases hw : e.sf 1
      · rfl
      · exact absurd ((sf_pre e 1).1 hw) fun h => i2.out fun x hx => h _ (hS.subset (List.mem_map.2 ⟨x, hx, rfl⟩))
    have hR := ER.out
    rw [hwi] at hR
    obtain rfl : R = false := hR
    gi_wp2
    refine ⟨by simp, .inl ⟨_, _, rfl, run_takeDeferred hK, ?_⟩⟩
    have hs := HS0.out
    have hh := EH.out
    have hl := EL.out
    have c5 : (W.putObj D (Obj.deferred none)).cell? ⟨H + 1, 0, none⟩ = some (.bool false) :=
      cell_kept (cell_of_heap i1 rfl) (grownBy_putObj' _ D (.deferred none)) (fun r er => by cases er; exact ⟨_, hK, rfl⟩)
    refine ⟨_, by simp [results, Tryz.f34, go_sem, c5], rfl, ?_⟩
    exact i3.trans (belowK_b (w := W0) (by omega) _ D _ _ hD hK rfl rfl)
end Go.Proofs.YtolikaginhjbhaaGreatDoor
/- ExprTyped's walk. -/
namespace Go.Proofs.YtolikaginhjbhaaGreatDoor
open Go.RowKit Go.Pen Go.Shelf
attribute [local go_sem] Oper.semAt_some

end Go.Proofs.YtolikaginhjbhaaGreatDoor
