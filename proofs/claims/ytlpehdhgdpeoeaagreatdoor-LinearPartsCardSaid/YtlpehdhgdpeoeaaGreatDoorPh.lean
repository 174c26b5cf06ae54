import Derived.Test.YtlpehdhgdpeoeaaGreatDoorPf
/- The reference's Sum of rows with counts. -/
namespace Go.Proofs.YtlpehdhgdpeoeaaGreatDoor
open Go.RowKit Go.Pen Go.Shelf
attribute [local go_sem] Oper.semAt_some

theorem addC_len (l : List Upd) (u : Upd) : (addC l u).length ≤ l.length + 1 := by
  unfold addC
  split
  · next x hx =>
    have := (List.getElem?_eq_some_iff.1 hx).1
    split <;> (simp only [List.length_append, List.length_take, List.length_cons, List.length_nil, List.length_drop]; omega)
  · simp only [List.length_append, List.length_take, List.length_cons, List.length_nil, List.length_drop]
    omega
theorem foldC_len : ∀ (l a : List Upd), (l.foldl addC a).length ≤ a.length + l.length
  | [], a => by simp
  | u :: l, a => by
    have h1 := foldC_len l (addC a u)
    have h2 := addC_len a u
    simp only [List.foldl_cons, List.length_cons]
    omega
theorem mem_addC {l : List Upd} {u x : Upd} (h : x ∈ addC l u) : x = u ∨ x ∈ l ∨ ∃ y ∈ l, x = { y with diff := wrap64 (y.diff + u.diff) } := by
  unfold addC at h
  split at h
  · next y hy =>
    split at h
    · simp only [List.mem_append, List.mem_singleton] at h
      rcases h with (h | h) | h
      · exact Or.inr (Or.inl (List.mem_of_mem_take h))
      · exact Or.inr (Or.inr ⟨y, List.mem_of_getElem? hy, h⟩)
      · exact Or.inr (Or.inl (List.mem_of_mem_drop h))
    · simp only [List.mem_append, List.mem_singleton] at h
      rcases h with (h | h) | h
      · exact Or.inr (Or.inl (List.mem_of_mem_take h))
      · exact Or.inl h
      · exact Or.inr (Or.inl (List.mem_of_mem_drop h))
  · simp only [List.mem_append, List.mem_singleton] at h
    rcases h with (h | h) | h
    · exact Or.inr (Or.inl (List.mem_of_mem_take h))
    · exact Or.inl h
    · exact Or.inr (Or.inl (List.mem_of_mem_drop h))
/-- rows that are not too long -/
def Few (l : List Upd) : Prop := ∀ x ∈ l, x.row.length ≤ 1073741824
theorem addC_few {l : List Upd} {u : Upd} (hl : Few l) (hu : u.row.length ≤ 1073741824) : Few (addC l u) := fun x hx => by
  rcases mem_addC hx with rfl | h | ⟨y, hy, rfl⟩
  · exact hu
  · exact hl x h
  · exact hl y hy
theorem foldC_few : ∀ (l a : List Upd), Few l → Few a → Few (l.foldl addC a)
  | [], _, _, ha => ha
  | u :: l, a, hl, ha => foldC_few l (addC a u) (fun x hx => hl x (by simp [hx])) (addC_few ha (hl u (by simp)))
theorem foldC_take {l : List Upd} {k : Nat} {u : Upd} (h : l[k]? = some u) : (l.take (k + 1)).foldl addC [] = addC ((l.take k).foldl addC []) u := by
  rw [List.take_add_one, h]; simp [List.foldl_append]
/-- rows with counts summed up -/
def sumC (l : List Upd) : List Upd := (l.foldl addC []).filter fun u => decide (u.diff ≠ 0)
theorem CtsAt.nil {w : World} : CtsAt w (.slice none 0 0) [] := ⟨none, 0, rfl, fun _ => rfl, fun h => absurd rfl h⟩

set_option maxRecDepth 100000 in
set_option maxHeartbeats 2000000 in
theorem sum_41 (us : List Upd) (v : Value) (w : World) (h : CtsAt w v us) (fus : Few us) (hn : us.length ≤ 1000000) :
    Calls Tryz.prog 41 #[v] w fun ev w' => ∃ v', ev = .returned v' ∧ CtsAt w' v' (sumC us) ∧ Below w.heap.size w w' := by
  obtain ⟨i0, hi0, hz0, hz1, hz2⟩ := info_parts info77
  obtain ⟨a, c, rfl, hz, hat⟩ := h
  obtain ⟨n, en⟩ : ∃ n, n = us.length := ⟨_, rfl⟩
  rw [← en] at hn ⊢
  have EN := Lib.hid en
  have HAT := Lib.hid hat
  have FUS := Lib.hid fus
  clear en hat fus
  go_enter Tryz.func41, Tryz.ntmps41
  go_wp2_with fail
  go_loopg [3, 4] n (fun g s3 s4 wr => ∃ k : Nat, k ≤ n ∧ g = n - k ∧ s4 = .int .i64 k ∧ CtsAt wr s3 ((us.take k).foldl addC []) ∧ (∀ a n c, s3 = .slice a n c → n ≤ c) ∧ Below w.heap.size w wr)
  case atStart => exact ⟨0, Nat.zero_le _, by omega, rfl, CtsAt.nil, fun a n c e => by cases e; exact Nat.le_refl _, Below.refl _ _⟩
  case round =>
    obtain ⟨k, hk, hgk, rfl, hup, hcap, hbr⟩ := hrel
    have HUP := Lib.hid hup
    have HCAP := Lib.hid hcap
    have HBR := Lib.hid hbr
    clear hup hcap hbr
    by_cases hlt : k < n
    · obtain ⟨x, hx⟩ : ∃ x, us[k]? = some x := ⟨us[k]'(by rw [← EN.out]; exact hlt), List.getElem?_eq_getElem _⟩
      obtain ⟨b, o, rfl, hg⟩ := HAT.out (fun e => by rw [e] at hx; simp at hx)
      obtain ⟨xrv, p0, p1, hxr⟩ := hg k x hx
      obtain ⟨xa, xc, rfl⟩ := rowAt_slice hxr
      obtain ⟨xn, exn⟩ : ∃ xn, xn = x.row.length := ⟨_, rfl⟩
      have hl : ((us.take k).foldl addC []).length ≤ 1000000 := by
        have := foldC_len (us.take k) []
        simp only [List.length_take, List.length_nil] at this
        omega
      have CB0 := Lib.hid (show Below w.heap.size w wr.drew from Go.Pen.below_drewN (n := 1) HBR.out)
      have hadd := add_55 ((us.take k).foldl addC []) x u3 _ wr.drew (HUP.out.below (drew_below' wr 1)) (hxr.below CB0.out) (foldC_few _ _ (fun y hy => FUS.out y (List.mem_of_mem_take hy)) (fun y hy => by cases hy)) (FUS.out x (List.mem_of_getElem? hx)) hl HCAP.out
      rw [← foldC_take hx] at hadd
      rw [← exn] at p0 hadd hxr
      have hsd : ∀ W, Below w.heap.size w W → W.cell? ⟨b, o + k * 2, none⟩ = some (.slice xa xn xc) ∧ W.cell? ⟨b, o + k * 2 + 1, none⟩ = some (.int .i64 x.diff) := fun W hb => ⟨cell_keep hb p0, cell_keep hb p1⟩
      have HSD := Lib.hid hsd
      have HADD := Lib.hid hadd
      have hiw : IntKind.i64.wrap (↑k) = (↑k : Int) := by rw [IntKind.wrap_i64]; omega
      clear hadd hg hxr hl hsd p0 p1 exn
      go_upto_region 5 with fail
      refine wp_region_held_drew (S := fun W => W.cell? ⟨b, o + k * 2, none⟩ = some (.slice xa xn xc) ∧ W.cell? ⟨b, o + k * 2 + 1, none⟩ = some (.int .i64 x.diff)) (by kernel_rfl) (HSD.out _ CB0.out) (fun hHeld => ?_)
      obtain ⟨wd, hwd⟩ : ∃ wd, wd = wr.drew := ⟨_, rfl⟩
      rw [← hwd] at CB0 hHeld HADD ⊢
      clear hwd
      refine wpAnyH_take (i := 0) (oi := ⟨some 13, _, _, _, _, _⟩) (v := ?_) rfl (by kernel_rfl) (by kernel_rfl) (by kernel_rfl) (fun _ _ _ h => h) (Or.inl ⟨by rfl, ?_⟩) (by assumption) ?_; rotate_left; (intro w hSw; (try dsimp only at hSw); go_simp; (try with_reducible rfl)); (try simp only [Act.put, List.setIfInBounds_toArray, List.set_cons_zero, List.set_cons_succ])
      refine wpAnyH_take (i := 1) (oi := ⟨some 14, _, _, _, _, _⟩) (v := ?_) rfl (by kernel_rfl) (by kernel_rfl) (by kernel_rfl) (fun _ _ _ h => h) (Or.inl ⟨by rfl, ?_⟩) (by assumption) ?_; rotate_left; (intro w hSw; (try dsimp only at hSw); go_simp; (try with_reducible rfl)); (try simp only [Act.put, List.setIfInBounds_toArray, List.set_cons_zero, List.set_cons_succ])
      refine wpAnyH_take (i := 2) (oi := ⟨some 15, _, _, _, _, _⟩) (v := ?_) rfl (by kernel_rfl) (by kernel_rfl) (by kernel_rfl) (fun _ _ _ h => h) (Or.inl ⟨by rfl, ?_⟩) (by assumption) ?_; rotate_left; (intro w hSw; (try dsimp only at hSw); go_simp; (try with_reducible rfl)); (try simp only [Act.put, List.setIfInBounds_toArray, List.set_cons_zero, List.set_cons_succ])
      refine wpAnyH_take (i := 3) (oi := ⟨some 16, _, _, _, _, _⟩) (v := ?_) rfl (by kernel_rfl) (by kernel_rfl) (by kernel_rfl) (fun _ _ _ h => h) (Or.inl ⟨by rfl, ?_⟩) (by assumption) ?_; rotate_left; (intro w hSw; (try dsimp only at hSw); go_simp; (try with_reducible rfl)); (try simp only [Act.put, List.setIfInBounds_toArray, List.set_cons_zero, List.set_cons_succ])
      refine wpAnyH_take (i := 4) (oi := ⟨some 17, _, _, _, _, _⟩) (v := ?_) rfl (by kernel_rfl) (by kernel_rfl) (by kernel_rfl) (fun _ _ _ h => h) (Or.inl ⟨by rfl, ?_⟩) (by assumption) ?_; rotate_left; (intro w hSw; (try dsimp only at hSw); go_simp; (try with_reducible rfl)); (try simp only [Act.put, List.setIfInBounds_toArray, List.set_cons_zero, List.set_cons_succ])
      refine wpAnyH_take (i := 5) (oi := ⟨some 18, _, _, _, _, _⟩) (v := ?_) rfl (by kernel_rfl) (by kernel_rfl) (by kernel_rfl) (fun _ _ _ h => h) (Or.inl ⟨by rfl, ?_⟩) (by assumption) ?_; rotate_left; (intro w hSw; (try dsimp only at hSw); go_simp; (try with_reducible rfl)); (try simp only [Act.put, List.setIfInBounds_toArray, List.set_cons_zero, List.set_cons_succ])
      refine wpAnyH_take (i := 6) (oi := ⟨some 19, _, _, _, _, _⟩) (v := ?_) rfl (by kernel_rfl) (by kernel_rfl) (by kernel_rfl) (fun _ _ _ h => h) (Or.inl ⟨by rfl, ?_⟩) (by assumption) ?_; rotate_left; (intro w hSw; (try dsimp only at hSw); go_simp; (try with_reducible rfl)); (try simp only [Act.put, List.setIfInBounds_toArray, List.set_cons_zero, List.set_cons_succ])
      refine wpAnyH_take (i := 7) (oi := ⟨some 20, _, _, _, _, _⟩) (v := ?_) rfl (by kernel_rfl) (by kernel_rfl) (by kernel_rfl) (fun _ _ _ h => h) (Or.inl ⟨by rfl, ?_⟩) (by assumption) ?_; rotate_left; (intro w hSw; (try dsimp only at hSw); go_simp; (try with_reducible rfl)); (try simp only [Act.put, List.setIfInBounds_toArray, List.set_cons_zero, List.set_cons_succ])
      refine wpAnyH_take (i := 8) (oi := ⟨some 21, _, _, _, _, _⟩) (v := ?_) rfl (by kernel_rfl) (by kernel_rfl) (by kernel_rfl) (fun _ _ _ h => h) (Or.inl ⟨by rfl, ?_⟩) (by assumption) ?_; rotate_left; (intro w hSw; (try dsimp only at hSw); go_simp; (try with_reducible rfl)); (try simp only [Act.put, List.setIfInBounds_toArray, List.set_cons_zero, List.set_cons_succ])
      refine wpAnyH_take (i := 9) (oi := ⟨some 22, _, _, _, _, _⟩) (v := ?_) rfl (by kernel_rfl) (by kernel_rfl) (by kernel_rfl) (fun _ _ _ h => h) (Or.inl ⟨by rfl, ?_⟩) (by assumption) ?_; rotate_left; (intro w hSw; (try dsimp only at hSw); go_simp; (try with_reducible rfl)); (try simp only [Act.put, List.setIfInBounds_toArray, List.set_cons_zero, List.set_cons_succ])
      refine wpAnyH_take (i := 10) (oi := ⟨some 23, _, _, _, _, _⟩) (v := ?_) rfl (by kernel_rfl) (by kernel_rfl) (by kernel_rfl) (fun _ _ _ h => h) (Or.inl ⟨by rfl, ?_⟩) (by assumption) ?_; rotate_left; (intro w hSw; (try dsimp only at hSw); go_simp; (try with_reducible rfl)); (try simp only [Act.put, List.setIfInBounds_toArray, List.set_cons_zero, List.set_cons_succ])
      refine wpAnyH_ready (rs := [11]) (by kernel_rfl) (by simp) ?_
      refine AllReadyH.cons (o := ⟨some 24, _, _, _, _, _⟩) rfl (fun KK hK => ?_) (AllReadyH.nil)
      go_simp
      go_at_call 55
      with_reducible refine HADD.out.mono ?_
      rintro ev Z1 ⟨v1, rfl, hu5, hc5, hbx⟩
      have CB1 := Lib.hid (stepB CB0.out (show Below wd.heap.size wd _ from hbx))
      have HU1 := Lib.hid hu5
      have HC1 := Lib.hid hc5
      clear hbx hu5 hc5
      go_wp2_with fail
      refine hK.out _ _ (HSD.out _ CB1.out) (fun hHeld => ?_)
      clear hK KK
      skip
      refine wpAnyH_take (i := 12) (oi := ⟨some 3, _, _, _, _, _⟩) (v := ?_) rfl (by kernel_rfl) (by kernel_rfl) (by kernel_rfl) (fun _ _ _ h => h) (Or.inl ⟨by rfl, ?_⟩) (by assumption) ?_; rotate_left; (intro w hSw; (try dsimp only at hSw); go_simp; (try with_reducible rfl)); (try simp only [Act.put, List.setIfInBounds_toArray, List.set_cons_zero, List.set_cons_succ])
      refine wpAnyH_done (by kernel_rfl) ?_ _
      go_wp2_with fail
      go_roundg (n - (k + 1))
      case measure => omega
      case rel => exact ⟨k + 1, by omega, rfl, by go_num, HU1.out, HC1.out, CB1.out⟩
    · have hkn : k = us.length := by have := EN.out; omega
      have hup := HUP.out
      rw [hkn, List.take_length] at hup
      have hla : (us.foldl addC []).length ≤ 1000000 := by
        have := foldC_len us []
        have := EN.out
        simp only [List.length_nil] at *
        omega
      obtain ⟨A, eA⟩ : ∃ A, A = us.foldl addC [] := ⟨_, rfl⟩
      rw [← eA] at hup hla
      have EA := Lib.hid eA
      obtain ⟨a3, c3, rfl, hz3, hat3⟩ := hup
      obtain ⟨m, em⟩ : ∃ m, m = A.length := ⟨_, rfl⟩
      rw [← em] at hla ⊢
      have EM := Lib.hid em
      have HAT3 := Lib.hid hat3
      have hs3 := HBR.out.size
      clear eA em hat3 HUP hkn
      obtain ⟨w3, rfl⟩ : ∃ w3, w3 = wr := ⟨_, rfl⟩
      go_wp2_with fail
      go_loopg [5, 6] m (fun g s5 s6 ws => ∃ (j q : Nat) (xs : List Value), j ≤ m ∧ g = m - j ∧ s6 = .int .i64 j ∧ q ≤ j ∧ ws.ownsRow w3.heap.size 77 2 s5 q xs ∧ Els2 w3 xs ((A.take j).filter fun u => decide (u.diff ≠ 0)) ∧ Below w3.heap.size w3 ws)
      case atStart => exact ⟨0, 0, [], Nat.zero_le _, by omega, rfl, Nat.le_refl _, World.ownsRow_nil _ _ _ _, by simpa using Els2.nil, Below.refl _ _⟩
      case round =>
        obtain ⟨j, q, xs, hj, hgj, rfl, hqj, hown, hels, hbs⟩ := hrel
        have HOWN := Lib.hid hown
        have HELS := Lib.hid hels
        have HBS := Lib.hid hbs
        obtain ⟨oa, oc, rfl⟩ := ownsRow_slice hown
        have hss := hbs.size
        clear hown hels hbs
        by_cases hjm : j < m
        · obtain ⟨x, hx⟩ : ∃ x, A[j]? = some x := ⟨A[j]'(by rw [← EM.out]; exact hjm), List.getElem?_eq_getElem _⟩
          obtain ⟨b, o, rfl, hg⟩ := HAT3.out (fun e => by rw [e] at hx; simp at hx)
          obtain ⟨xrv, p0, p1, hxr⟩ := hg j x hx
          obtain ⟨xa, xc, rfl⟩ := rowAt_slice hxr
          obtain ⟨xn, exn⟩ : ∃ xn, xn = x.row.length := ⟨_, rfl⟩
          rw [← exn] at p0 hxr
          have p0 := cell_keep HBS.out p0
          have p1 := cell_keep HBS.out p1
          have HXR := Lib.hid hxr
          have HX := Lib.hid hx
          clear hg hxr hx exn
          by_cases hd : x.diff = 0
          · have htk : (A.take (j + 1)).filter (fun u => decide (u.diff ≠ 0)) = (A.take j).filter fun u => decide (u.diff ≠ 0) := by
              rw [List.take_add_one, HX.out]; simp [hd]
            have HTK := Lib.hid htk
            have hd2 : (x.diff == 0) = true := by simp [hd]
            clear htk
            go_wp2_with fail
            go_roundg (m - (j + 1))
            case measure => omega
            case rel => exact ⟨j + 1, q, xs, by omega, rfl, by go_num, by omega, HOWN.out, by rw [HTK.out]; exact HELS.out, HBS.out⟩
          · have htk : (A.take (j + 1)).filter (fun u => decide (u.diff ≠ 0)) = ((A.take j).filter fun u => decide (u.diff ≠ 0)) ++ [x] := by
              rw [List.take_add_one, HX.out]; simp [hd]
            have HTK := Lib.hid htk
            have hd2 : (x.diff == 0) = false := by simp [hd]
            clear htk
            go_wp2_with (at_builtin; go_must (refine wpList_append_lies _ rfl _ _ 42 rfl w3.heap.size 77 i0 _ 2 32 Tryz.underlying42 hi0 hz0 hz1 hz2 rfl (by decide) _ q xs rfl (HOWN.out.alloc _) ⟨_, 0, none⟩ 1 1 [.slice xa xn xc, .int .i64 x.diff] rfl rfl ?c1 ?c2 (by decide) ?c3 ?c4 ?c5 _ rfl ?_))
            case c1 => first | exact fun _ _ hj => hj | exact World.news_of_block (cs := #[.slice xa xn xc, .int .i64 x.diff]) (heap_alloc_new _ _)
            case c2 => intro y hy; simp at hy; rcases hy with rfl | rfl <;> rfl
            case c3 => unfold maxLen; omega
            case c4 => omega
            case c5 => first | omega | (simp; omega)
            intro g8 cap8 w8 hown8 hgrow8 _ _
            have HB8 := Lib.hid ((HBS.out.alloc (o := .cells #[.slice xa xn xc, .int .i64 x.diff] 77) HBS.out.size).grown hgrow8 (by rw [World.size_alloc]; omega) (fun g hg => (HOWN.out.lt g hg).1))
            have HO8 := Lib.hid hown8
            clear hown8 hgrow8
            go_wp2_with fail
            go_roundg (m - (j + 1))
            case measure => omega
            case rel =>
              refine ⟨j + 1, q + 1, _, by omega, rfl, by go_num, by omega, HO8.out, ?_, HB8.out⟩
              rw [HTK.out]
              exact HELS.out.append (Els2.one HXR.out)
        · have hjm' : j = A.length := by have := EM.out; omega
          have he := HELS.out
          rw [hjm', List.take_length] at he
          go_wp2_with fail
          go_ret
          refine ⟨_, rfl, ?_, HBR.out.trans (HBS.out.mono HBR.out.size)⟩
          unfold sumC
          rw [← EA.out]
          exact ((he.below HBS.out).at HOWN.out).2
end Go.Proofs.YtlpehdhgdpeoeaaGreatDoor
/- The reference's At: which updates stand at a time or before. -/
namespace Go.Proofs.YtlpehdhgdpeoeaaGreatDoor
open Go.RowKit Go.Pen Go.Shelf
attribute [local go_sem] Oper.semAt_some

/-- no later than a time without loops -/
def leqE (E e : Int) (n : Nat) : Bool := decide (n = 0 ∧ e ≤ E)
def atE (E : Int) (u : Upd) : Bool := leqE E u.epoch u.loops.length
/-- an update's row with its count -/
def cts (u : Upd) : Upd := ⟨u.row, 0, [], u.diff⟩

set_option maxRecDepth 100000 in
set_option maxHeartbeats 1000000 in
theorem leq_40 (e E : Int) (a : Option Addr) (n c : Nat) (w : World) :
    Calls Tryz.prog 40 #[.agg #[.int .u64 e, .slice a n c], .agg #[.int .u64 E, .slice none 0 0]] w fun ev w' => ev = .returned (.bool (leqE E e n)) ∧ Below w.heap.size w w' := by
  unfold leqE
  have hb1 : Below w.heap.size w ((w.alloc (.cells #[.int .u64 e, .slice a n c] 46)).alloc (.cells #[.int .u64 E, .slice none 0 0] 46)) := two_below _ _ _
  have HB1 := Lib.hid hb1
  clear hb1
  by_cases hn : n = 0
  · subst hn
    by_cases he : e ≤ E
    · have hne : ¬ E < e := by omega
      go_enter Tryz.func40, Tryz.ntmps40
      go_wp2_with fail
      obtain ⟨w1, hw1⟩ : ∃ w1, w1 = (w.alloc (.cells #[.int .u64 e, .slice a 0 c] 46)).alloc (.cells #[.int .u64 E, .slice none 0 0] 46) := ⟨_, rfl⟩
      have ht := two_at (w := w) (w1 := w1) (a := .cells #[.int .u64 e, .slice a 0 c] 46) (b := .cells #[.int .u64 E, .slice none 0 0] 46) (by rw [hw1]; exact Below.refl _ _)
      have y1 : w1.cell? ⟨w.heap.size, 1, none⟩ = some (.slice a 0 c) := cell_of_heap ht.1 rfl
      rw [← hw1] at HB1 ⊢
      clear hw1 ht
      go_loopg [5] 0 (fun g s5 wr => g = 0 ∧ s5 = .int .i64 0 ∧ Below w.heap.size w wr ∧ wr.cell? ⟨w.heap.size, 1, none⟩ = some (.slice a 0 c))
      case atStart => exact ⟨rfl, rfl, HB1.out, y1⟩
      case round =>
        obtain ⟨hg, rfl, hbr, q1⟩ := hrel
        have HBR := Lib.hid hbr
        clear hbr y1
        go_wp2_with fail
        go_ret
        exact ⟨by simp [he], HBR.out⟩
    · have hne : E < e := by omega
      go_enter Tryz.func40, Tryz.ntmps40
      go_wp2_with fail
      go_ret
      exact ⟨by simp [he], HB1.out⟩
  · go_enter Tryz.func40, Tryz.ntmps40
    go_wp2_with fail
    go_ret
    exact ⟨by simp [hn], HB1.out⟩

set_option maxRecDepth 100000 in
set_option maxHeartbeats 4000000 in
theorem at_19 (us : List Upd) (E : Int) (v : Value) (w : World) (h : UpsAt w v us) (fus : ∀ x ∈ us, x.row.length ≤ 1073741824) (hn : us.length ≤ 1000000) :
    Calls Tryz.prog 19 #[v, .agg #[.int .u64 E, .slice none 0 0]] w fun ev w' => ∃ v', ev = .returned v' ∧ CtsAt w' v' (sumC ((us.filter (atE E)).map cts)) ∧ Below w.heap.size w w' := by
  obtain ⟨i0, hi0, hz0, hz1, hz2⟩ := info_parts info77
  obtain ⟨a, c, rfl, hz, hat⟩ := h
  obtain ⟨n, en⟩ : ∃ n, n = us.length := ⟨_, rfl⟩
  rw [← en] at hn ⊢
  have EN := Lib.hid en
  have HAT := Lib.hid hat
  have FUS := Lib.hid fus
  clear en hat fus
  go_enter Tryz.func19, Tryz.ntmps19
  go_wp2_with fail
  obtain ⟨w1, hw1⟩ : ∃ w1, w1 = w.alloc (.cells #[.int .u64 E, .slice none 0 0] 46) := ⟨_, rfl⟩
  have hb1 : Below w.heap.size w w1 := by rw [hw1]; exact (Below.refl _ _).alloc (Nat.le_refl _) _
  have hk1 : w1.heap[w.heap.size]? = some (.cells #[.int .u64 E, .slice none 0 0] 46 (0, 0)) := by rw [hw1]; exact heap_alloc_new _ _
  have HB1 := Lib.hid hb1
  have HK1 := Lib.hid hk1
  rw [← hw1]
  clear hw1 hb1 hk1
  go_loopg [5, 6] n (fun g s5 s6 wr => ∃ (k q : Nat) (xs : List Value), k ≤ n ∧ g = n - k ∧ s6 = .int .i64 k ∧ q ≤ k ∧ wr.ownsRow w1.heap.size 77 2 s5 q xs ∧ Els2 w1 xs (((us.take k).filter (atE E)).map cts) ∧ Below w1.heap.size w1 wr)
  case atStart => exact ⟨0, 0, [], Nat.zero_le _, by omega, rfl, Nat.le_refl _, World.ownsRow_nil _ _ _ _, by simpa using Els2.nil, Below.refl _ _⟩
  case round =>
    obtain ⟨k, q, xs, hk, hgk, rfl, hqk, hown, hels, hbr⟩ := hrel
    have HELS := Lib.hid hels
    have HBR := Lib.hid hbr
    obtain ⟨oa, oc, rfl⟩ := ownsRow_slice hown
    have HOWN := Lib.hid hown
    have hsr := hbr.size
    clear hels hbr hown
    by_cases hlt : k < n
    · obtain ⟨x, hx⟩ : ∃ x, us[k]? = some x := ⟨us[k]'(by rw [← EN.out]; exact hlt), List.getElem?_eq_getElem _⟩
      obtain ⟨b, o, rfl, hg⟩ := HAT.out (fun e => by rw [e] at hx; simp at hx)
      obtain ⟨xrv, xlv, p0, p1, p2, p3, hxr, hxl⟩ := hg k x hx
      obtain ⟨xa, xc, rfl⟩ := rowAt_slice hxr
      obtain ⟨xl, xd, rfl⟩ := hxl.slice
      obtain ⟨xm, exm⟩ : ∃ xm, xm = x.loops.length := ⟨_, rfl⟩
      obtain ⟨xn, exn⟩ : ∃ xn, xn = x.row.length := ⟨_, rfl⟩
      have hxl := FUS.out x (List.mem_of_getElem? hx)
      have CB0 := Lib.hid (show Below w1.heap.size w1 wr.drew from Go.Pen.below_drewN (n := 1) HBR.out)
      have hlq : ∀ W, Below w1.heap.size w1 W → Calls Tryz.prog 40 #[.agg #[.int .u64 x.epoch, .slice xl xm xd], .agg #[.int .u64 E, .slice none 0 0]] W fun ev w' => ev = .returned (.bool (atE E x)) ∧ Below W.heap.size W w' := fun W _ => by
        have := leq_40 x.epoch E xl xm xd W
        rw [exm] at this ⊢
        exact this
      have hob : ∀ W, Below w1.heap.size w1 W → Below wr.drew.heap.size wr.drew W → W.ownsRow w1.heap.size 77 2 (.slice oa q oc) q xs := fun W _ hb => Below.ownsRow' hb (Below.ownsRow' (drew_below' wr 1) HOWN.out)
      have hxr1 := hxr.below HB1.out
      rw [← exn] at p0 hxr1
      rw [← exm] at p2
      have p0 := cell_keep HB1.out p0
      have p1 := cell_keep HB1.out p1
      have p2 := cell_keep HB1.out p2
      have p3 := cell_keep HB1.out p3
      have hsd : ∀ W, Below w1.heap.size w1 W → W.cell? ⟨b, o + k * 4 + 1, none⟩ = some (.int .u64 x.epoch) ∧ W.cell? ⟨b, o + k * 4 + 2, none⟩ = some (.slice xl xm xd) ∧ W.cell? ⟨w.heap.size, 0, none⟩ = some (.int .u64 E) ∧ W.cell? ⟨w.heap.size, 1, none⟩ = some (.slice none 0 0) := fun W hb => ⟨cell_keep hb p1, cell_keep hb p2, cell_of_heap (keepB HK1.out hb) rfl, cell_of_heap (keepB HK1.out hb) rfl⟩
      have hse : ∀ W, Below w1.heap.size w1 W → W.cell? ⟨b, o + k * 4, none⟩ = some (.slice xa xn xc) ∧ W.cell? ⟨b, o + k * 4 + 3, none⟩ = some (.int .i64 x.diff) := fun W hb => ⟨cell_keep hb p0, cell_keep hb p3⟩
      have HSD := Lib.hid hsd
      have HSE := Lib.hid hse
      have HLQ := Lib.hid hlq
      have HOWB := Lib.hid hob
      have HXR := Lib.hid hxr1
      have HX := Lib.hid hx
      have hiw : IntKind.i64.wrap (↑k) = (↑k : Int) := by rw [IntKind.wrap_i64]; omega
      clear hg hxr hxr1 hxl hsd hse hlq hob p0 p1 p2 p3 exn exm hx
      by_cases hyn : atE E x = true
      · have htk : ((us.take (k + 1)).filter (atE E)).map cts = ((us.take k).filter (atE E)).map cts ++ [cts x] := by
          rw [List.take_add_one, HX.out]; simp [hyn]
        have HTK := Lib.hid htk
        have HYN := Lib.hid hyn
        clear htk hyn
        go_upto_region 5 with fail
        refine wp_region_held_drew (S := fun W => W.cell? ⟨b, o + k * 4 + 1, none⟩ = some (.int .u64 x.epoch) ∧ W.cell? ⟨b, o + k * 4 + 2, none⟩ = some (.slice xl xm xd) ∧ W.cell? ⟨w.heap.size, 0, none⟩ = some (.int .u64 E) ∧ W.cell? ⟨w.heap.size, 1, none⟩ = some (.slice none 0 0)) (by kernel_rfl) (HSD.out _ CB0.out) (fun hHeld => ?_)
        obtain ⟨wd, hwd⟩ : ∃ wd, wd = wr.drew := ⟨_, rfl⟩
        rw [← hwd] at CB0 hHeld HOWB ⊢
        clear hwd
        refine wpAnyH_take (i := 0) (oi := ⟨some 13, _, _, _, _, _⟩) (v := ?_) rfl (by kernel_rfl) (by kernel_rfl) (by kernel_rfl) (fun _ _ _ h => h) (Or.inl ⟨by rfl, ?_⟩) (by assumption) ?_; rotate_left; (intro w hSw; (try dsimp only at hSw); go_simp; (try with_reducible rfl)); (try simp only [Act.put, List.setIfInBounds_toArray, List.set_cons_zero, List.set_cons_succ])
        refine wpAnyH_take (i := 1) (oi := ⟨some 14, _, _, _, _, _⟩) (v := ?_) rfl (by kernel_rfl) (by kernel_rfl) (by kernel_rfl) (fun _ _ _ h => h) (Or.inl ⟨by rfl, ?_⟩) (by assumption) ?_; rotate_left; (intro w hSw; (try dsimp only at hSw); go_simp; (try with_reducible rfl)); (try simp only [Act.put, List.setIfInBounds_toArray, List.set_cons_zero, List.set_cons_succ])
        refine wpAnyH_take (i := 2) (oi := ⟨some 15, _, _, _, _, _⟩) (v := ?_) rfl (by kernel_rfl) (by kernel_rfl) (by kernel_rfl) (fun _ _ _ h => h) (Or.inl ⟨by rfl, ?_⟩) (by assumption) ?_; rotate_left; (intro w hSw; (try dsimp only at hSw); go_simp; (try with_reducible rfl)); (try simp only [Act.put, List.setIfInBounds_toArray, List.set_cons_zero, List.set_cons_succ])
        refine wpAnyH_take (i := 3) (oi := ⟨some 16, _, _, _, _, _⟩) (v := ?_) rfl (by kernel_rfl) (by kernel_rfl) (by kernel_rfl) (fun _ _ _ h => h) (Or.inl ⟨by rfl, ?_⟩) (by assumption) ?_; rotate_left; (intro w hSw; (try dsimp only at hSw); go_simp; (try with_reducible rfl)); (try simp only [Act.put, List.setIfInBounds_toArray, List.set_cons_zero, List.set_cons_succ])
        refine wpAnyH_take (i := 4) (oi := ⟨some 17, _, _, _, _, _⟩) (v := ?_) rfl (by kernel_rfl) (by kernel_rfl) (by kernel_rfl) (fun _ _ _ h => h) (Or.inl ⟨by rfl, ?_⟩) (by assumption) ?_; rotate_left; (intro w hSw; (try dsimp only at hSw); go_simp; (try with_reducible rfl)); (try simp only [Act.put, List.setIfInBounds_toArray, List.set_cons_zero, List.set_cons_succ])
        refine wpAnyH_take (i := 5) (oi := ⟨some 18, _, _, _, _, _⟩) (v := ?_) rfl (by kernel_rfl) (by kernel_rfl) (by kernel_rfl) (fun _ _ _ h => h) (Or.inl ⟨by rfl, ?_⟩) (by assumption) ?_; rotate_left; (intro w hSw; (try dsimp only at hSw); go_simp; (try with_reducible rfl)); (try simp only [Act.put, List.setIfInBounds_toArray, List.set_cons_zero, List.set_cons_succ])
        refine wpAnyH_ready (rs := [6]) (by kernel_rfl) (by simp) ?_
        refine AllReadyH.cons (o := ⟨some 19, _, _, _, _, _⟩) rfl (fun KK hK => ?_) (AllReadyH.nil)
        go_simp
        go_at_call 40
        with_reducible refine (HLQ.out _ CB0.out).mono ?_
        rintro ev Zy1 ⟨rfl, hbx⟩
        have CB1 := Lib.hid (stepB CB0.out hbx)
        have HBX1 := Lib.hid hbx
        clear hbx
        rw [HYN.out]
        go_wp2_with fail
        refine hK.out _ _ (HSD.out _ CB1.out) (fun hHeld => ?_)
        clear hK KK
        skip
        refine wpAnyH_done (by kernel_rfl) ?_ _
        have HOW7 := Lib.hid (HOWB.out _ CB1.out HBX1.out)
        have HBZ := CB1
        obtain ⟨wz, hwz⟩ : ∃ wz, wz = Zy1 := ⟨_, rfl⟩
        rw [← hwz] at HOW7 HBZ ⊢
        clear hwz
        have CBE := Lib.hid (show Below w1.heap.size w1 wz.drew from Go.Pen.below_drewN (n := 1) HBZ.out)
        go_upto_region 6 with fail
        refine wp_region_held_drew (S := fun W => W.cell? ⟨b, o + k * 4, none⟩ = some (.slice xa xn xc) ∧ W.cell? ⟨b, o + k * 4 + 3, none⟩ = some (.int .i64 x.diff)) (by kernel_rfl) (HSE.out _ CBE.out) (fun hHeld => ?_)
        obtain ⟨we, hwe⟩ : ∃ we, we = wz.drew := ⟨_, rfl⟩
        rw [← hwe] at CBE hHeld ⊢
        have CBA := Lib.hid (show Below w1.heap.size w1 (we.alloc (.cells #[.slice xa xn xc, .int .i64 x.diff] 77)) from CBE.out.alloc CBE.out.size _)
        have HOA := Lib.hid (show (we.alloc (.cells #[.slice xa xn xc, .int .i64 x.diff] 77)).ownsRow w1.heap.size 77 2 (.slice oa q oc) q xs by rw [hwe]; exact World.ownsRow.alloc (w := wz.drew) HOW7.out _)
        clear hwe
        refine wpAnyH_take (i := 0) (oi := ⟨some 20, _, _, _, _, _⟩) (v := ?_) rfl (by kernel_rfl) (by kernel_rfl) (by kernel_rfl) (fun _ _ _ h => h) (Or.inl ⟨by rfl, ?_⟩) (by assumption) ?_; rotate_left; (intro w hSw; (try dsimp only at hSw); go_simp; (try with_reducible rfl)); (try simp only [Act.put, List.setIfInBounds_toArray, List.set_cons_zero, List.set_cons_succ])
        refine wpAnyH_take (i := 1) (oi := ⟨some 21, _, _, _, _, _⟩) (v := ?_) rfl (by kernel_rfl) (by kernel_rfl) (by kernel_rfl) (fun _ _ _ h => h) (Or.inl ⟨by rfl, ?_⟩) (by assumption) ?_; rotate_left; (intro w hSw; (try dsimp only at hSw); go_simp; (try with_reducible rfl)); (try simp only [Act.put, List.setIfInBounds_toArray, List.set_cons_zero, List.set_cons_succ])
        refine wpAnyH_take (i := 2) (oi := ⟨some 22, _, _, _, _, _⟩) (v := ?_) rfl (by kernel_rfl) (by kernel_rfl) (by kernel_rfl) (fun _ _ _ h => h) (Or.inl ⟨by rfl, ?_⟩) (by assumption) ?_; rotate_left; (intro w hSw; (try dsimp only at hSw); go_simp; (try with_reducible rfl)); (try simp only [Act.put, List.setIfInBounds_toArray, List.set_cons_zero, List.set_cons_succ])
        refine wpAnyH_take (i := 3) (oi := ⟨some 23, _, _, _, _, _⟩) (v := ?_) rfl (by kernel_rfl) (by kernel_rfl) (by kernel_rfl) (fun _ _ _ h => h) (Or.inl ⟨by rfl, ?_⟩) (by assumption) ?_; rotate_left; (intro w hSw; (try dsimp only at hSw); go_simp; (try with_reducible rfl)); (try simp only [Act.put, List.setIfInBounds_toArray, List.set_cons_zero, List.set_cons_succ])
        refine wpAnyH_take (i := 4) (oi := ⟨some 24, _, _, _, _, _⟩) (v := ?_) rfl (by kernel_rfl) (by kernel_rfl) (by kernel_rfl) (fun _ _ _ h => h) (Or.inl ⟨by rfl, ?_⟩) (by assumption) ?_; rotate_left; (intro w hSw; (try dsimp only at hSw); go_simp; (try with_reducible rfl)); (try simp only [Act.put, List.setIfInBounds_toArray, List.set_cons_zero, List.set_cons_succ])
        refine wpAnyH_take (i := 5) (oi := ⟨some 25, _, _, _, _, _⟩) (v := ?_) rfl (by kernel_rfl) (by kernel_rfl) (by kernel_rfl) (fun _ _ _ h => h) (Or.inl ⟨by rfl, ?_⟩) (by assumption) ?_; rotate_left; (intro w hSw; (try dsimp only at hSw); go_simp; (try with_reducible rfl)); (try simp only [Act.put, List.setIfInBounds_toArray, List.set_cons_zero, List.set_cons_succ])
        refine wpAnyH_take (i := 6) (oi := ⟨some 26, _, _, _, _, _⟩) (v := ?_) rfl (by kernel_rfl) (by kernel_rfl) (by kernel_rfl) (fun _ _ _ h => h) (Or.inl ⟨by rfl, ?_⟩) (by assumption) ?_; rotate_left; (intro w hSw; (try dsimp only at hSw); go_simp; (try with_reducible rfl)); (try simp only [Act.put, List.setIfInBounds_toArray, List.set_cons_zero, List.set_cons_succ])
        refine wpAnyH_take (i := 7) (oi := ⟨some 27, _, _, _, _, _⟩) (v := ?_) rfl (by kernel_rfl) (by kernel_rfl) (by kernel_rfl) (fun _ _ _ h => h) (Or.inl ⟨by rfl, ?_⟩) (by assumption) ?_; rotate_left; (intro w hSw; (try dsimp only at hSw); go_simp; (try with_reducible rfl)); (try simp only [Act.put, List.setIfInBounds_toArray, List.set_cons_zero, List.set_cons_succ])
        refine wpAnyH_take (i := 8) (oi := ⟨some 28, _, _, _, _, _⟩) (v := ?_) rfl (by kernel_rfl) (by kernel_rfl) (by kernel_rfl) (fun _ _ _ h => h) (Or.inl ⟨by rfl, ?_⟩) (by assumption) ?_; rotate_left; (intro w hSw; (try dsimp only at hSw); go_simp; (try with_reducible rfl)); (try simp only [Act.put, List.setIfInBounds_toArray, List.set_cons_zero, List.set_cons_succ])
        refine wpAnyH_take (i := 9) (oi := ⟨some 29, _, _, _, _, _⟩) (v := ?_) rfl (by kernel_rfl) (by kernel_rfl) (by kernel_rfl) (fun _ _ _ h => h) (Or.inl ⟨by rfl, ?_⟩) (by assumption) ?_; rotate_left; (intro w hSw; (try dsimp only at hSw); go_simp; (try with_reducible rfl)); (try simp only [Act.put, List.setIfInBounds_toArray, List.set_cons_zero, List.set_cons_succ])
        refine wpAnyH_take (i := 10) (oi := ⟨some 30, _, _, _, _, _⟩) (v := ?_) rfl (by kernel_rfl) (by kernel_rfl) (by kernel_rfl) (fun _ _ _ h => h) (Or.inl ⟨by rfl, ?_⟩) (by assumption) ?_; rotate_left; (intro w hSw; (try dsimp only at hSw); go_simp; (try with_reducible rfl)); (try simp only [Act.put, List.setIfInBounds_toArray, List.set_cons_zero, List.set_cons_succ])
        refine wpAnyH_take (i := 11) (oi := ⟨some 31, _, _, _, _, _⟩) (v := ?_) rfl (by kernel_rfl) (by kernel_rfl) (by kernel_rfl) (fun _ _ _ h => h) (Or.inl ⟨by rfl, ?_⟩) (by assumption) ?_; rotate_left; (intro w hSw; (try dsimp only at hSw); go_simp; (try with_reducible rfl)); (try simp only [Act.put, List.setIfInBounds_toArray, List.set_cons_zero, List.set_cons_succ])
        refine wpAnyH_ready (rs := [12]) (by kernel_rfl) (by simp) ?_
        refine AllReadyH.cons (o := ⟨some 32, _, _, _, _, _⟩) rfl (fun KK hK => ?_) (AllReadyH.nil)
        go_simp
        refine hK.out _ _ (HSE.out _ CBA.out) (fun hHeld => ?_)
        clear hK KK
        skip
        refine wpAnyH_ready (rs := [13]) (by kernel_rfl) (by simp) ?_
        refine AllReadyH.cons (o := ⟨some 33, _, _, _, _, _⟩) rfl (fun KK hK => ?_) (AllReadyH.nil)
        refine step_append_lies _ rfl (.tmp 20) (.tmp 32) 42 rfl w1.heap.size 77 i0 _ 2 32 Tryz.underlying42 hi0 hz0 hz1 hz2 rfl (by decide) _ q xs (by simp [Act.eval]) HOA.out ⟨we.heap.size, 0, none⟩ 1 1 [.slice xa xn xc, .int .i64 x.diff] (by simp [Act.eval]) rfl (World.news_of_block (cs := #[.slice xa xn xc, .int .i64 x.diff]) (heap_alloc_new _ _)) (by intro y hy; simp at hy; rcases hy with rfl | rfl <;> rfl) (by decide) (by unfold maxLen; omega) (by omega) CBA.out.size _ rfl ?_
        intro g8 oc8 w8 hown8 hgrow8 _ _
        obtain ⟨oa8, hoa8⟩ : ∃ oa8, oa8 = some (⟨g8, 0, none⟩ : Addr) := ⟨_, rfl⟩
        rw [← hoa8] at hown8 ⊢
        have HB8 := Lib.hid (CBA.out.grown hgrow8 CBA.out.size (fun g hg => (HOA.out.lt g hg).1))
        have HO8 := Lib.hid hown8
        clear hown8 hgrow8 hoa8
        refine hK.out _ _ (HSE.out _ HB8.out) (fun hHeld => ?_)
        clear hK KK
        simp only [Act.put, List.setIfInBounds_toArray, List.set_cons_zero, List.set_cons_succ]
        refine wpAnyH_take (i := 14) (oi := ⟨some 5, _, _, _, _, _⟩) (v := ?_) rfl (by kernel_rfl) (by kernel_rfl) (by kernel_rfl) (fun _ _ _ h => h) (Or.inl ⟨by rfl, ?_⟩) (by assumption) ?_; rotate_left; (intro w hSw; (try dsimp only at hSw); go_simp; (try with_reducible rfl)); (try simp only [Act.put, List.setIfInBounds_toArray, List.set_cons_zero, List.set_cons_succ])
        refine wpAnyH_done (by kernel_rfl) ?_ _
        go_wp2_with fail
        go_roundg (n - (k + 1))
        case measure => omega
        case rel =>
          refine ⟨k + 1, q + 1, _, by omega, rfl, by go_num, by omega, HO8.out, ?_, HB8.out⟩
          rw [HTK.out]
          exact HELS.out.append (Els2.one (u := cts x) HXR.out)
      · replace hyn : atE E x = false := by simpa using hyn
        have htk : ((us.take (k + 1)).filter (atE E)).map cts = ((us.take k).filter (atE E)).map cts := by
          rw [List.take_add_one, HX.out]; simp [hyn]
        have HTK := Lib.hid htk
        have HYN := Lib.hid hyn
        clear htk hyn
        go_upto_region 5 with fail
        refine wp_region_held_drew (S := fun W => W.cell? ⟨b, o + k * 4 + 1, none⟩ = some (.int .u64 x.epoch) ∧ W.cell? ⟨b, o + k * 4 + 2, none⟩ = some (.slice xl xm xd) ∧ W.cell? ⟨w.heap.size, 0, none⟩ = some (.int .u64 E) ∧ W.cell? ⟨w.heap.size, 1, none⟩ = some (.slice none 0 0)) (by kernel_rfl) (HSD.out _ CB0.out) (fun hHeld => ?_)
        obtain ⟨wd, hwd⟩ : ∃ wd, wd = wr.drew := ⟨_, rfl⟩
        rw [← hwd] at CB0 hHeld HOWB ⊢
        clear hwd
        refine wpAnyH_take (i := 0) (oi := ⟨some 13, _, _, _, _, _⟩) (v := ?_) rfl (by kernel_rfl) (by kernel_rfl) (by kernel_rfl) (fun _ _ _ h => h) (Or.inl ⟨by rfl, ?_⟩) (by assumption) ?_; rotate_left; (intro w hSw; (try dsimp only at hSw); go_simp; (try with_reducible rfl)); (try simp only [Act.put, List.setIfInBounds_toArray, List.set_cons_zero, List.set_cons_succ])
        refine wpAnyH_take (i := 1) (oi := ⟨some 14, _, _, _, _, _⟩) (v := ?_) rfl (by kernel_rfl) (by kernel_rfl) (by kernel_rfl) (fun _ _ _ h => h) (Or.inl ⟨by rfl, ?_⟩) (by assumption) ?_; rotate_left; (intro w hSw; (try dsimp only at hSw); go_simp; (try with_reducible rfl)); (try simp only [Act.put, List.setIfInBounds_toArray, List.set_cons_zero, List.set_cons_succ])
        refine wpAnyH_take (i := 2) (oi := ⟨some 15, _, _, _, _, _⟩) (v := ?_) rfl (by kernel_rfl) (by kernel_rfl) (by kernel_rfl) (fun _ _ _ h => h) (Or.inl ⟨by rfl, ?_⟩) (by assumption) ?_; rotate_left; (intro w hSw; (try dsimp only at hSw); go_simp; (try with_reducible rfl)); (try simp only [Act.put, List.setIfInBounds_toArray, List.set_cons_zero, List.set_cons_succ])
        refine wpAnyH_take (i := 3) (oi := ⟨some 16, _, _, _, _, _⟩) (v := ?_) rfl (by kernel_rfl) (by kernel_rfl) (by kernel_rfl) (fun _ _ _ h => h) (Or.inl ⟨by rfl, ?_⟩) (by assumption) ?_; rotate_left; (intro w hSw; (try dsimp only at hSw); go_simp; (try with_reducible rfl)); (try simp only [Act.put, List.setIfInBounds_toArray, List.set_cons_zero, List.set_cons_succ])
        refine wpAnyH_take (i := 4) (oi := ⟨some 17, _, _, _, _, _⟩) (v := ?_) rfl (by kernel_rfl) (by kernel_rfl) (by kernel_rfl) (fun _ _ _ h => h) (Or.inl ⟨by rfl, ?_⟩) (by assumption) ?_; rotate_left; (intro w hSw; (try dsimp only at hSw); go_simp; (try with_reducible rfl)); (try simp only [Act.put, List.setIfInBounds_toArray, List.set_cons_zero, List.set_cons_succ])
        refine wpAnyH_take (i := 5) (oi := ⟨some 18, _, _, _, _, _⟩) (v := ?_) rfl (by kernel_rfl) (by kernel_rfl) (by kernel_rfl) (fun _ _ _ h => h) (Or.inl ⟨by rfl, ?_⟩) (by assumption) ?_; rotate_left; (intro w hSw; (try dsimp only at hSw); go_simp; (try with_reducible rfl)); (try simp only [Act.put, List.setIfInBounds_toArray, List.set_cons_zero, List.set_cons_succ])
        refine wpAnyH_ready (rs := [6]) (by kernel_rfl) (by simp) ?_
        refine AllReadyH.cons (o := ⟨some 19, _, _, _, _, _⟩) rfl (fun KK hK => ?_) (AllReadyH.nil)
        go_simp
        go_at_call 40
        with_reducible refine (HLQ.out _ CB0.out).mono ?_
        rintro ev Zn1 ⟨rfl, hbx⟩
        have CB1 := Lib.hid (stepB CB0.out hbx)
        have HBX1 := Lib.hid hbx
        clear hbx
        rw [HYN.out]
        go_wp2_with fail
        refine hK.out _ _ (HSD.out _ CB1.out) (fun hHeld => ?_)
        clear hK KK
        skip
        refine wpAnyH_done (by kernel_rfl) ?_ _
        go_wp2_with fail
        go_roundg (n - (k + 1))
        case measure => omega
        case rel => exact ⟨k + 1, q, xs, by omega, rfl, by go_num, by omega, HOWB.out _ CB1.out HBX1.out, by rw [HTK.out]; exact HELS.out, CB1.out⟩
    · have hkn : k = us.length := by have := EN.out; omega
      have he := HELS.out
      rw [hkn, List.take_length] at he
      have hcts := ((he.below HBR.out).at HOWN.out).2
      have hfl : ((us.filter (atE E)).map cts).length ≤ 1000000 := by
        have := List.length_filter_le (atE E) us
        have := EN.out
        rw [List.length_map]
        omega
      have hfw : Few ((us.filter (atE E)).map cts) := fun y hy => by
        obtain ⟨z, hz, rfl⟩ := List.mem_map.1 hy
        exact FUS.out z (List.mem_filter.1 hz).1
      have HSUM := Lib.hid (sum_41 _ _ wr hcts hfw hfl)
      clear hcts hfw hfl he hkn
      go_wp2_with (go_at_call 41; refine HSUM.out.mono ?_; rintro e w5 ⟨v5, rfl, hu5, hb5⟩)
      go_ret
      exact ⟨v5, rfl, hu5, (HB1.out.trans (HBR.out.mono HB1.out.size)).trans (hb5.mono (by have := HB1.out.size; omega))⟩
end Go.Proofs.YtlpehdhgdpeoeaaGreatDoor
/- LinearParts' plain law: the shares of all workers are what came in, in some order; how they are summed up does not hang on the order. -/
namespace Go.Proofs.YtlpehdhgdpeoeaaGreatDoor
open Go.RowKit Go.Pen Go.Shelf

/-- a row with a count, at time 0 -/
def Zu (u : Upd) : Prop := u.epoch = 0 ∧ u.loops = []
theorem cmpK_zu {a b : Upd} (ha : Zu a) (hb : Zu b) : cmpK a b = cmpR a.row b.row := by
  rw [cmpK_eq2, cmpT_eq, ha.1, hb.1, ha.2, hb.2]
  split
  · next h => rw [h]; rfl
  · rfl
theorem addC_eq {l : List Upd} {u : Upd} (ha : Asc l) (hl : ∀ x ∈ l, Zu x) (hu : Zu u) : addC l u = addU l u := by
  obtain ⟨h1, h2, h3⟩ := cut_spec u l l.length
  unfold addU
  obtain ⟨k, ek⟩ : ∃ k, k = cutN u l l.length := ⟨_, rfl⟩
  rw [← ek] at h1 h2 h3 ⊢
  by_cases hc : 0 < k ∧ cmpK (l.getD (k - 1) u) u = 0
  · rw [if_pos hc]
    have hk : k - 1 < l.length := by omega
    rw [getD_lt hk] at hc ⊢
    have hz := hl _ (List.getElem_mem hk)
    have h0 : cmpR (l[k - 1]).row u.row = 0 := by rw [← cmpK_zu hz hu]; exact hc.2
    have hcut : cutC u l = k - 1 := cutC_of (by omega) (fun j x hj hx => by
        have hjl : j < l.length := by omega
        rw [List.getElem?_eq_getElem hjl] at hx
        cases hx
        rw [← cmpK_zu (hl _ (List.getElem_mem hjl)) hu]
        exact ord_K.lt (asc_get ha hj hk) (by omega)) (fun x hx => by
        rw [List.getElem?_eq_getElem hk] at hx
        cases hx
        omega)
    unfold addC
    rw [hcut, List.getElem?_eq_getElem hk]
    simp only []
    rw [if_pos h0, List.set_eq_take_append_cons_drop, if_pos hk, show k - 1 + 1 = k by omega]
    simp
  · rw [if_neg hc]
    have hcut : cutC u l = k := cutC_of h1 (fun j x hj hx => by
        have hjl : j < l.length := by omega
        rw [List.getElem?_eq_getElem hjl] at hx
        cases hx
        rw [← cmpK_zu (hl _ (List.getElem_mem hjl)) hu]
        have hk : k - 1 < l.length := by omega
        have hk0 : 0 < k := by omega
        have h4 := h3 hk0
        rw [getD_lt hk] at h4 hc
        have h5 : cmpK l[k - 1] u < 0 := by
          have : cmpK l[k - 1] u ≠ 0 := fun e => hc ⟨hk0, e⟩
          omega
        by_cases hjk : j = k - 1
        · subst hjk; exact h5
        · exact ord_K.lt (asc_get ha (show j < k - 1 by omega) hk) (by omega)) (fun x hx => by
        obtain ⟨hkl, rfl⟩ := List.getElem?_eq_some_iff.1 hx
        have := h2 k (Nat.le_refl _) hkl
        rw [getD_lt hkl, cmpK_zu (hl _ (List.getElem_mem hkl)) hu] at this
        omega)
    unfold addC
    rw [hcut]
    split
    · next x hx =>
      obtain ⟨hkl, rfl⟩ := List.getElem?_eq_some_iff.1 hx
      have := h2 k (Nat.le_refl _) hkl
      rw [getD_lt hkl, cmpK_zu (hl _ (List.getElem_mem hkl)) hu] at this
      rw [if_neg (by omega)]
      simp
    · simp
theorem foldC_eq : ∀ (l a : List Upd), Asc a → (∀ x ∈ a, Zu x) → (∀ x ∈ l, Zu x) → l.foldl addC a = l.foldl addU a
  | [], _, _, _, _ => rfl
  | u :: l, a, ha, hz, hl => by
    have hu := hl u (by simp)
    simp only [List.foldl_cons]
    rw [addC_eq ha hz hu]
    refine foldC_eq l _ (asc_add ha u) (fun x hx => ?_) fun x hx => hl x (by simp [hx])
    rcases mem_add hx with rfl | h | ⟨y, hy, n, rfl⟩
    · exact hu
    · exact hz x h
    · exact hz y hy
theorem sumC_eq {l : List Upd} (hl : ∀ x ∈ l, Zu x) : sumC l = sumU l := by
  unfold sumC sumU
  rw [foldC_eq l [] List.Pairwise.nil (fun x hx => by cases hx) hl]
theorem sumC_perm {l m : List Upd} (hl : ∀ u ∈ l, u.good) (h : l.Perm m) (E : Int) : sumC ((l.filter (atE E)).map cts) = sumC ((m.filter (atE E)).map cts) := by
  rw [sumC_eq (fun x hx => by obtain ⟨y, _, rfl⟩ := List.mem_map.1 hx; exact ⟨rfl, rfl⟩), sumC_eq (fun x hx => by obtain ⟨y, _, rfl⟩ := List.mem_map.1 hx; exact ⟨rfl, rfl⟩)]
  refine sumU_perm (fun u hu => ?_) ((h.filter _).map _)
  obtain ⟨y, hy, rfl⟩ := List.mem_map.1 hu
  have hg := hl y (List.mem_filter.1 hy).1
  exact ⟨hg.1, hg.2.1.diff⟩

theorem two_filters {p q : Upd → Bool} (h : ∀ x, p x = true → q x = false) : ∀ l : List Upd, (l.filter p ++ l.filter q).Perm (l.filter fun x => p x || q x)
  | [] => .refl _
  | x :: l => by
    have ih := two_filters h l
    by_cases hp : p x = true
    · have hq := h x hp
      rw [List.filter_cons_of_pos hp, List.filter_cons_of_neg (by simp [hq]), List.filter_cons_of_pos (by simp [hp])]
      exact ih.cons x
    · by_cases hq : q x = true
      · rw [List.filter_cons_of_neg hp, List.filter_cons_of_pos hq, List.filter_cons_of_pos (by simp [hq])]
        exact List.perm_middle.trans (ih.cons x)
      · rw [List.filter_cons_of_neg hp, List.filter_cons_of_neg hq, List.filter_cons_of_neg (by simp [hp, hq])]
        exact ih
theorem allF_part (cs : List Int) (n v : Int) : ∀ us : List Upd, allF (partD cs n v) us = us.filter fun u => decide (hashR u.row cs % n = v)
  | [] => rfl
  | u :: us => by
    have ih := allF_part cs n v us
    unfold allF at ih ⊢
    by_cases h : hashR u.row cs % n = v
    · rw [List.filter_cons_of_pos (by simp [h]), List.filterMap_cons_some (by simp [partD, h]; rfl), ih]
    · rw [List.filter_cons_of_neg (by simp [h]), List.filterMap_cons_none (by simp [partD, h]), ih]
/-- the first workers' shares, one behind the other -/
def shares (cs : List Int) (n : Int) (us : List Upd) : Nat → List Upd
  | 0 => []
  | K + 1 => shares cs n us K ++ allF (partD cs n K) us
theorem shares_perm (cs : List Int) {n : Int} (hn : 1 ≤ n) (us : List Upd) : ∀ K : Nat, (shares cs n us K).Perm (us.filter fun u => decide (hashR u.row cs % n < K))
  | 0 => by
    have : (us.filter fun u => decide (hashR u.row cs % n < ((0 : Nat) : Int))) = [] := List.filter_eq_nil_iff.2 fun u _ => by
      have := Int.emod_nonneg (hashR u.row cs) (show n ≠ 0 by omega)
      simp; omega
    rw [this]
    exact .refl _
  | K + 1 => by
    refine ((shares_perm cs hn us K).append (List.Perm.refl _)).trans ?_
    rw [allF_part]
    refine (two_filters (p := fun u => decide (hashR u.row cs % n < (K : Int))) (q := fun u => decide (hashR u.row cs % n = (K : Int))) (fun x h => by simp at h ⊢; omega) us).trans ?_
    have : (fun u : Upd => decide (hashR u.row cs % n < (K : Int)) || decide (hashR u.row cs % n = (K : Int))) = fun u => decide (hashR u.row cs % n < ((K + 1 : Nat) : Int)) := funext fun u => by
      rw [← Bool.decide_or]
      exact decide_eq_decide.2 (by omega)
    rw [this]
theorem shares_all (cs : List Int) {n : Int} {N : Nat} (hN : n = N) (hn : 1 ≤ n) (us : List Upd) : (shares cs n us N).Perm us := by
  refine (shares_perm cs hn us N).trans ?_
  rw [List.filter_eq_self.2 fun u _ => by
    have := Int.emod_lt_of_pos (hashR u.row cs) (show 0 < n by omega)
    simp; omega]
theorem shares_len (cs : List Int) {n : Int} (hn : 1 ≤ n) (us : List Upd) (K : Nat) : (shares cs n us K).length ≤ us.length := by
  rw [(shares_perm cs hn us K).length_eq]
  exact List.length_filter_le _ _
end Go.Proofs.YtlpehdhgdpeoeaaGreatDoor
/- all and Part, the types of what they answer kept. -/
namespace Go.Proofs.YtlpehdhgdpeoeaaGreatDoor
open Go.RowKit Go.Pen Go.Shelf
attribute [local go_sem] Oper.semAt_some

/-- updates in memory of their own, rows and loops in blocks of their types -/
def UpsT (w : World) (v : Value) (us : List Upd) : Prop := ∃ b xs, w.ownsRow b 51 4 v us.length xs ∧ ElsT w xs us
theorem UpsT.at {w : World} {v : Value} {us : List Upd} (h : UpsT w v us) : UpsAt w v us := by
  obtain ⟨b, xs, k3, k7⟩ := h
  exact (k7.els.at k3).2
theorem UpsT.below {w w' : World} {v : Value} {us : List Upd} (h : UpsT w v us) (hb : Below w.heap.size w w') : UpsT w' v us := by
  obtain ⟨b, xs, k3, k7⟩ := h
  exact ⟨b, xs, Below.ownsRow' hb k3, k7.kt (Kt.of_below hb)⟩
theorem owns_none {w : World} {base e size n c : Nat} {xs : List Value} (h : w.ownsRow base e size (.slice none n c) n xs) : n = 0 ∧ c = 0 := by
  rcases h.2 with ⟨h, -⟩ | ⟨g, cap, cur, hv, -⟩
  · cases h; exact ⟨rfl, rfl⟩
  · cases hv
theorem ElsT.append {w : World} {xs ys : List Value} {us vs : List Upd} (h : ElsT w xs us) (k : ElsT w ys vs) : ElsT w (xs ++ ys) (us ++ vs) := ⟨by rw [List.length_append, List.length_append, h.len, k.len]; omega, fun i u hu => by
  have hl := h.len
  by_cases hi : i < us.length
  · rw [List.getElem?_append_left hi] at hu
    obtain ⟨rv, lv, q0, q1, q2, q3, hr⟩ := h.el i u hu
    refine ⟨rv, lv, ?_, ?_, ?_, ?_, hr⟩ <;> rw [List.getElem?_append_left (by omega)] <;> assumption
  · rw [List.getElem?_append_right (by omega)] at hu
    obtain ⟨rv, lv, q0, q1, q2, q3, hr⟩ := k.el _ u hu
    have e0 : i * 4 - xs.length = (i - us.length) * 4 := by omega
    have e1 : i * 4 + 1 - xs.length = (i - us.length) * 4 + 1 := by omega
    have e2 : i * 4 + 2 - xs.length = (i - us.length) * 4 + 2 := by omega
    have e3 : i * 4 + 3 - xs.length = (i - us.length) * 4 + 3 := by omega
    refine ⟨rv, lv, ?_, ?_, ?_, ?_, hr⟩ <;> rw [List.getElem?_append_right (by omega)]
    · rw [e0]; exact q0
    · rw [e1]; exact q1
    · rw [e2]; exact q2
    · rw [e3]; exact q3⟩

set_option maxRecDepth 100000 in
set_option maxHeartbeats 1000000 in
theorem seq_67T (D : Upd → Upd × Bool) (g : Nat) (lb : Array Value) (us : List Upd) (a : Option Addr) (uc : Nat) (w W0 : World) (s : Nat) (hn : us.length ≤ 300) (hb0 : Below s w W0) (hs0 : W0.heap.size = s + 2) (h0 : W0.heap[s]? = some (.cells #[.slice a us.length uc] 22 (0, 0))) (h1 : W0.heap[s + 1]? = some (.cells #[.func (.func g) #[] lb] 72 (0, 0)))
    (hseq : SeqIx Fence.wide 3 Tryz.prog 57 #[.pointer (some ⟨s, 0, none⟩), .pointer (some ⟨s + 1, 0, none⟩)] (fun x : Value => #[x]) us.length
      (fun i W => JA w s (.func (.func g) #[] lb) (.slice a us.length uc) (allF D (us.take i)) (fun _ => False) W)
      (fun i x W => ∃ u u' rv lv, us[i]? = some u ∧ (D u) = (u', true) ∧ x = .agg (upV rv lv u') ∧ UpT W rv lv u' ∧ JA w s (.func (.func g) #[] lb) (.slice a us.length uc) (allF D (us.take i)) (fun _ => False) W) (s + 3)) :
    Calls Tryz.prog 67 #[.slice none 0 0, .func (.func 57) #[] #[.pointer (some ⟨s, 0, none⟩), .pointer (some ⟨s + 1, 0, none⟩)]] W0 fun e w' => ∃ ov, e = .returned ov ∧ UpsT w' ov (allF D us) ∧ Below s w w' := by
  obtain ⟨i0, hi0, hz0, hz1, hz2⟩ := info_parts info51
  have HSEQ := Lib.hid hseq
  have hF : ∀ f, Fence.wide.fn f := fun _ => trivial
  have hdd : Fence.wide.depth = none := rfl
  have hro : Fence.wide.round = none := rfl
  obtain ⟨W1, hW1⟩ : ∃ W1, W1 = W0.alloc (.cells #[.slice none 0 0] 22) := ⟨_, rfl⟩
  have hs1 : W1.heap.size = s + 3 := by rw [hW1]; simp [hs0]
  have h2 : W1.heap[s + 2]? = some (.cells #[.slice none 0 0] 22 (0, 0)) := by rw [hW1, ← hs0]; exact heap_alloc_new _ _
  have hj0 : JA w s (.func (.func g) #[] lb) (.slice a us.length uc) [] (fun _ => False) W1 := ⟨by rw [hW1]; exact hb0.alloc (by omega) _, by rw [hW1]; exact keepAt' h0 _, by rw [hW1]; exact keepAt' h1 _, .slice none 0 0, [], h2, World.ownsRow_nil _ _ _ _, (fun k hk => by cases hk), ElsT.nil⟩
  have HJ0 := Lib.hid hj0
  have HS1 := Lib.hid hs1
  have HW1 := Lib.hid hW1
  have HS0 := Lib.hid hs0
  clear hseq hb0 h0 h1 h2 hj0 hs1 hW1 hs0
  refine (callsIn_wide (n := 4)).1 ?_
  refine callsIn_of_wp_marks Tryz.func67 rfl trivial ?_ rfl
  simp only [Tryz.ntmps67, List.size_toArray, List.length_cons, List.length_nil, Nat.reduceAdd, Nat.reduceSub, Array.replicate_succ, Array.replicate_zero, List.push_toArray, List.append_toArray, List.nil_append, List.cons_append]
  gi_wp2_with fail
  rw [← HW1.out, HS0.out]
  refine wpIn_rangeFunc_ixz (n := 4) rfl (by decide) (gf := 57) (lb := #[.pointer (some ⟨s, 0, none⟩), .pointer (some ⟨s + 1, 0, none⟩)]) rfl trivial (enters_of Tryz.func57 (by kernel_rfl) rfl) (encs := fun x : Value => #[x]) (N := us.length) (I := _) (Y := _)
    (Z := fun i x a' W => ∃ u u' rv lvv Bx x12, us[i]? = some u ∧ (D u) = (u', true) ∧ s + 3 ≤ Bx ∧ W.heap[Bx]? = some (.cells (upV rv lvv u') 51 (0, 0)) ∧ UpT W rv lvv u' ∧ JA w s (.func (.func g) #[] lb) (.slice a us.length uc) (allF D (us.take i)) (fun _ => False) W ∧
      a' = { tmps := #[.slice none 0 0, .func (.func 57) #[] #[.pointer (some ⟨s, 0, none⟩), .pointer (some ⟨s + 1, 0, none⟩)], .pointer (some ⟨s + 2, 0, none⟩), undef, .slice none 0 0, .pointer (some ⟨Bx, 0, none⟩), .func (.func 57) #[] #[.pointer (some ⟨s, 0, none⟩), .pointer (some ⟨s + 1, 0, none⟩)], x12, undef, undef, undef, undef, undef], defers := [] })
    (by rw [HS1.out]; exact HSEQ.out) (fun _ => rfl) ?ip ?zp ?h0 ?asg ?bdy ?don
  case ip => exact fun i W l o o' h hl ho hc => h.put (by have := HS1.out; omega) ho hc
  case zp =>
    rintro i x a' W l o o' ⟨u, u', rv, lvv, Bx, x12, q1, q2, q3, q4, q5, q6, q7⟩ hl ho hc
    exact ⟨u, u', rv, lvv, Bx, x12, q1, q2, q3, (World.putObj_heap_other (put_ne q4 ho hc)).trans q4, q5.put ho hc, q6.put (by have := HS1.out; omega) ho hc, q7⟩
  case h0 => exact fun o o' => ((HJ0.out.fresh o).fresh o').weak
  case asg =>
    rintro l i x W K0 ⟨u, u', rv, lvv, hu, hD, rfl, hut, hj⟩ hK
    obtain ⟨ra, rc, erv, -, -⟩ := id hut.row
    obtain ⟨la, lc, elv, -, -⟩ := id hut.loops
    subst erv elv
    have HK := Lib.hid hK
    have HUT := Lib.hid hut
    have HJ := Lib.hid hj
    clear hK hut hj
    unfold upV
    have hz : s + 3 ≤ W.heap.size := by have := HJ.out.lt; omega
    have hnb : W.heap.size = W.heap.size := rfl
    gi_wp2_with fail
    exact HK.out _ _ (Kt.alloc _ _).keeps ⟨u, u', _, _, W.heap.size, _, hu, hD, hz, heap_alloc_new _ _, HUT.out.kt (Kt.alloc _ _), (HJ.out.fresh _).weak, rfl⟩
  case bdy =>
    rintro l i x a' W hi ⟨u, u', rv, lvv, Bx, x12, q1, q2, q3, q4, q5, q6, rfl⟩
    obtain ⟨ra, rc, erv, -, -⟩ := id q5.row
    obtain ⟨la, lc, elv, -, -⟩ := id q5.loops
    subst erv elv
    have hsz := q6.lt
    obtain ⟨bl, b0, b1, ov, xs, h1, h3, -, h7⟩ := q6
    obtain ⟨oa, oc, rfl⟩ := ownsRow_slice h3
    have z0 : W.cell? ⟨Bx, 0, none⟩ = some (.slice ra u'.row.length rc) := cell_of_heap q4 rfl
    have z1 : W.cell? ⟨Bx, 1, none⟩ = some (.int .u64 u'.epoch) := cell_of_heap q4 rfl
    have z2 : W.cell? ⟨Bx, 2, none⟩ = some (.slice la u'.loops.length lc) := cell_of_heap q4 rfl
    have z3 : W.cell? ⟨Bx, 3, none⟩ = some (.int .i64 u'.diff) := cell_of_heap q4 rfl
    have z4 : W.cell? ⟨s + 2, 0, none⟩ = some (.slice oa (allF D (us.take i)).length oc) := cell_of_heap h1 rfl
    have hql : (allF D (us.take i)).length ≤ 300 := Nat.le_trans (allF_len _) (by rw [List.length_take]; omega)
    have htk : us.take (i + 1) = us.take i ++ [u] := by rw [List.take_add_one, q1]; rfl
    have hkf : allF D (us.take (i + 1)) = allF D (us.take i) ++ [u'] := by rw [htk, allF_snoc, q2]; rfl
    have HB := Lib.hid bl
    have H0 := Lib.hid b0
    have H1 := Lib.hid b1
    have H2 := Lib.hid h1
    have H3 := Lib.hid h3
    have H7 := Lib.hid h7
    have HU5 := Lib.hid q5
    have HKF := Lib.hid hkf
    clear bl b0 b1 h1 h3 h7 q1 q2 q4 q5 htk hkf
    gi_wp2_with (gi_at_builtin; go_must (refine wpListIn_append_own_at _ rfl _ _ 22 rfl (s + 3) 51 i0 _ 4 64 Tryz.underlying22 hi0 hz0 hz1 hz2 rfl (by decide) _ (allF D (us.take i)).length xs rfl (H3.out.alloc _) ⟨W.heap.size, 0, none⟩ 1 1 [.slice ra u'.row.length rc, .int .u64 u'.epoch, .slice la u'.loops.length lc, .int .i64 u'.diff] rfl rfl ?c1 ?c2 ?c3 ?c4 ?c5 ?_))
    case c1 => first | exact fun _ _ hj => hj | exact World.news_of_block (cs := #[.slice ra u'.row.length rc, .int .u64 u'.epoch, .slice la u'.loops.length lc, .int .i64 u'.diff]) (heap_alloc_new _ _)
    case c2 => first | exact ⟨rfl, rfl, rfl, rfl⟩ | (intro y hy; simp at hy; rcases hy with rfl | rfl | rfl | rfl <;> rfl)
    case c3 => unfold maxLen; omega
    case c4 => omega
    case c5 => first | omega | (rw [World.size_alloc]; omega)
    intro v' w3 hown hgrow _ hat
    obtain ⟨va, vc, rfl⟩ := ownsRow_slice hown
    have hpush := push_all HB.out H0.out H1.out H2.out H3.out H7.out HU5.out rfl hown hgrow
    rw [← HKF.out] at hpush
    have he1 : w3.heap[s + 2]? = some (.cells #[.slice oa (allF D (us.take i)).length oc] 22 (0, 0)) := (hgrow.block (s + 2) (by simp; omega) (fun e => by have := (H3.out.lt _ e.symm).1; omega)).trans (keepAt' H2.out _)
    have z5 := cell_of_heap (o := 0) he1 rfl
    have g5 := frozen_of_heap (o := 0) he1
    have HPU := Lib.hid hpush
    clear hown hgrow hat hpush he1
    gi_wp2_with fail
    exact ⟨HPU.out.2, HPU.out.1⟩
  case don =>
    intro Dd W hDd hI hdef
    rw [List.take_length] at hI
    have HI := Lib.hid hI
    obtain ⟨bl, b0, b1, ov, xs, h1, h3, -, h7⟩ := hI
    obtain ⟨oa, oc, rfl⟩ := ownsRow_slice h3
    have z1 := cell_of_heap (o := 0) h1 rfl
    gi_wp2
    have hj5 := HI.out.put (o' := .deferred none) (by have := HS1.out; omega) hdef rfl
    refine ⟨by simp, .inl ⟨_, _, rfl, run_takeDeferred hdef, ?_⟩⟩
    refine ⟨.slice oa (allF D us).length oc, by simp [results, Tryz.f67, go_sem], ?_⟩
    have e1 : (W.putObj Dd (.deferred none)).heap[s + 2]? = some (.cells #[.slice oa (allF D us).length oc] 22 (0, 0)) := (World.putObj_heap_other (put_ne h1 hdef rfl)).trans h1
    obtain ⟨bl5, -, -, ov5, xs5, k1, k3, -, k7⟩ := hj5
    obtain rfl : .slice oa (allF D us).length oc = ov5 := by have := e1.symm.trans k1; simpa using this
    exact ⟨_, rfl, ⟨_, _, k3, k7⟩, bl5⟩

set_option maxRecDepth 100000 in
set_option maxHeartbeats 1000000 in
theorem all_32T (D : Upd → Upd × Bool) (g : Nat) (lb : Array Value) (eg : ∀ args w, (callFunc g args).run Tryz.prog w = .ok (.enter g args) w) (us : List Upd) (a : Option Addr) (uc : Nat) (w : World) (s : Nat) (hs : s = w.heap.size) (hus : UpsAt w (.slice a us.length uc) us) (hn : us.length ≤ 300) (fus : ∀ u ∈ us, u.fits)
    (hdo : ∀ (u : Upd) (p : Nat) (rv lv : Value) (outs : List Upd) (W : World), u ∈ us → s + 3 ≤ p → JA w s (.func (.func g) #[] lb) (.slice a us.length uc) outs (· = p) W → W.heap[p]? = some (.cells (upV rv lv u) 51 (0, 0)) → UpT W rv lv u →
      Calls Tryz.prog g (#[.pointer (some ⟨p, 0, none⟩)] ++ lb) W fun e W' => ∃ rv' lv', e = .returned (.bool (D u).2) ∧ W'.heap[p]? = some (.cells (upV rv' lv' (D u).1) 51 (0, 0)) ∧ UpT W' rv' lv' (D u).1 ∧ But p W W' ∧ Kt W W') :
    Calls Tryz.prog 32 #[.slice a us.length uc, .func (.func g) #[] lb] w fun e w' => ∃ ov, e = .returned ov ∧ UpsT w' ov (allF D us) ∧ Below w.heap.size w w' := by
  have hseq := each1_57a D g lb eg us a uc w s hs hus hn fus hdo 3
  obtain ⟨K, eK⟩ : ∃ K, K = us.length := ⟨_, rfl⟩
  have HSEQ := Lib.hid hseq
  have HS := Lib.hid hs
  have EK := Lib.hid eK
  clear hseq hs hus fus hdo eg
  rw [← eK]
  go_enter Tryz.func32, Tryz.ntmps32
  go_wp2_with fail
  refine (each_43 _ _ _ _ _ _).mono ?_
  rintro ev w1 ⟨rfl, hw1⟩
  have h0 : w1.heap[s]? = some (.cells #[.slice a us.length uc] 22 (0, 0)) := by rw [hw1, HS.out, ← EK.out]; exact keepAt' (heap_alloc_new _ _) _
  have h1 : w1.heap[s + 1]? = some (.cells #[.func (.func g) #[] lb] 72 (0, 0)) := by rw [hw1, HS.out, ← EK.out]; have := heap_alloc_new (w.alloc (.cells #[.slice a K uc] 22)) (.cells #[.func (.func g) #[] lb] 72); rw [World.size_alloc] at this; exact this
  have hb1 : Below s w w1 := by rw [hw1, HS.out]; exact two_below _ _ _
  have hs1 : w1.heap.size = s + 2 := by rw [hw1, HS.out]; simp
  have HQ := Lib.hid (seq_67T D g lb us a uc w w1 s hn hb1 hs1 h0 h1 HSEQ.out)
  rw [← HS.out]
  clear hw1 h0 h1 hb1 hs1
  go_wp2_with (go_at_call 50; refine (collect_50 rfl HQ.out).mono ?_; rintro e w2 ⟨ov, rfl, ho, hb2⟩)
  go_ret
  exact ⟨ov, rfl, ho, by rw [← HS.out]; exact hb2⟩

set_option maxRecDepth 100000 in
set_option maxHeartbeats 1000000 in
theorem part_16T (us : List Upd) (cs : List Int) (n v : Int) (a : Option Addr) (uc : Nat) (cv : Value) (w : World) (hus : UpsAt w (.slice a us.length uc) us) (hl : us.length ≤ 300) (gus : ∀ u ∈ us, u.good) (hc : IntsOn (fun _ => True) w cs cv) (hcl : cs.length ≤ 1073741824) (hn : 1 ≤ n ∧ n ≤ 8) (hv : 0 ≤ v ∧ v < n) :
    Calls Tryz.prog 16 #[.slice a us.length uc, cv, .int .i64 n, .int .i64 v] w fun e w' => ∃ ov, e = .returned ov ∧ UpsT w' ov (allF (partD cs n v) us) ∧ Below w.heap.size w w' := by
  obtain ⟨ca, cc, rfl, -, -⟩ := id hc
  obtain ⟨w1, hw1⟩ : ∃ w1, w1 = ((w.alloc (.cells #[.slice ca cs.length cc] 32)).alloc (.cells #[.int .i64 n] 3)).alloc (.cells #[.int .i64 v] 3) := ⟨_, rfl⟩
  have hb1 : Below w.heap.size w w1 := by rw [hw1]; exact three_below _ _ _ _
  have hs1 : w1.heap.size = w.heap.size + 3 := by rw [hw1]; simp
  have hy1 : w1.heap[w.heap.size]? = some (.cells #[.slice ca cs.length cc] 32 (0, 0)) := by rw [hw1]; exact keepAt' (keepAt' (heap_alloc_new _ _) _) _
  have hy2 : w1.heap[w.heap.size + 1]? = some (.cells #[.int .i64 n] 3 (0, 0)) := by
    have := heap_alloc_new (w.alloc (.cells #[.slice ca cs.length cc] 32)) (.cells #[.int .i64 n] 3)
    rw [World.size_alloc] at this
    rw [hw1]; exact keepAt' this _
  have hy3 : w1.heap[w.heap.size + 2]? = some (.cells #[.int .i64 v] 3 (0, 0)) := by
    have := heap_alloc_new ((w.alloc (.cells #[.slice ca cs.length cc] 32)).alloc (.cells #[.int .i64 n] 3)) (.cells #[.int .i64 v] 3)
    rw [World.size_alloc, World.size_alloc] at this
    rw [hw1]; exact this
  have hk := all_32T (partD cs n v) 37 #[.pointer (some ⟨w.heap.size, 0, none⟩), .pointer (some ⟨w.heap.size + 1, 0, none⟩), .pointer (some ⟨w.heap.size + 2, 0, none⟩)] (enters_of Tryz.func37 (by kernel_rfl) rfl) us a uc w1 w1.heap.size rfl (hus.below hb1) hl (fun u hu => (gus u hu).2.1) (fun u p rv lv outs W hu hps hJ hp hut => by
    have hbw : Below w1.heap.size w1 W := hJ.1
    have hbb : Below w.heap.size w W := hb1.trans (hbw.mono (by omega))
    have hg := gus u hu
    refine (part1_37 u.row cs n v p w.heap.size rv _ _ _ _ W hp hut.rowAt hg.1 hg.2.1.row hg.2.1.lr ((hbw.block _ (by omega)).trans hy1) ((hbw.block _ (by omega)).trans hy2) ((hbw.block _ (by omega)).trans hy3) (hc.below hbb) hcl hn hv).mono ?_
    rintro e W' ⟨rfl, hb⟩
    exact ⟨rv, lv, rfl, keepB hp hb, hut.kt (Kt.of_below hb), But.of_below hb, Kt.of_below hb⟩)
  rw [hw1] at hk
  have HK := Lib.hid hk
  clear hk hw1 hb1 hs1 hy1 hy2 hy3
  have hn1 : ¬ n < 1 := by omega
  have hv1 : ¬ v < 0 := by omega
  go_enter Tryz.func16, Tryz.ntmps16
  go_wp2_with (go_at_call 32; refine HK.out.mono ?_; rintro e w5 ⟨ov, rfl, ho, hb5⟩)
  go_ret
  exact ⟨ov, rfl, ho, (three_below _ _ _ _).trans (hb5.mono (by simp; omega))⟩
end Go.Proofs.YtlpehdhgdpeoeaaGreatDoor
/- LinearParts' walk. -/
namespace Go.Proofs.YtlpehdhgdpeoeaaGreatDoor
open Go.RowKit Go.Pen Go.Shelf
attribute [local go_sem] Oper.semAt_some

theorem intsOn_at {w : World} {v : Value} {xs : List Int} (h : IntsAt w v xs) : IntsOn (fun _ => True) w xs v := by
  obtain ⟨a, c, rfl, hz, h⟩ := h
  refine ⟨a, c, rfl, hz, fun hne => ?_⟩
  obtain ⟨b, o, rfl, hg⟩ := h hne
  exact ⟨b, o, rfl, trivial, hg⟩
theorem owns_cells {w : World} {base e size n c : Nat} {pa : Option Addr} {xs : List Value} (h : w.ownsRow base e size (.slice pa n c) n xs) : ∀ ad, pa = some ad → ∀ j x, xs[j]? = some x → w.cell? (ad.add j) = some x := by
  rcases h.2 with ⟨hv, -⟩ | ⟨g, cap, cur, hv, -⟩
  · cases hv
    intro ad e
    cases e
  · cases hv
    intro ad e j x hx
    cases e
    rw [add_lit]
    exact ownsRow_cell h rfl hx
theorem valid_goods {us : List Upd} (hv : validU us = true) (hf : ∀ u ∈ us, u.fits) (hw : ∀ u ∈ us, u.few) : ∀ u ∈ us, u.good := fun u hu => by
  have h := List.all_eq_true.1 hv u hu
  simp only [rowOk, Bool.and_eq_true] at h
  exact ⟨fun d hd => List.all_eq_true.1 h.2 d hd, hf u hu, (hw u hu).1⟩

set_option maxRecDepth 100000 in
set_option maxHeartbeats 4000000 in
theorem parts_5 (us : List Upd) (cs : List Int) (wk : Int) (v cv : Value) (w : World) (hu : UpsAt w v us) (wus : ∀ u ∈ us, u.wide) (hul : us.length ≤ 140737488355328) (hc : IntsAt w cv cs) (hcl : cs.length ≤ 17592186043904) (hwk : 0 ≤ wk ∧ wk ≤ 255)
    (hkn : ∀ W, Below w.heap.size w W → Calls Tryz.prog 7 #[] W fun e w' => e = .returned (.bool true) ∧ Below W.heap.size W w') :
    Calls Tryz.prog 5 #[v, cv, .int .u8 wk] w fun e w' => e = .returned (.bool true) ∧ Below w.heap.size w w' := by
  obtain ⟨i0, hi0, hz0, hz1, hz2⟩ := info_parts info51
  obtain ⟨ua, uc, rfl⟩ := hu.slice
  obtain ⟨ca, cc, rfl⟩ := hc.slice
  obtain ⟨N, hN, hN1, hN8⟩ : ∃ N : Nat, wk % 8 + 1 = (N : Int) ∧ 1 ≤ N ∧ N ≤ 8 := ⟨(wk % 8 + 1).toNat, by omega, by omega, by omega⟩
  have ht : wk.tmod 8 = wk % 8 := Int.tmod_eq_emod_of_nonneg hwk.1
  have cw : IntKind.i64.wrap wk = wk := by rw [IntKind.wrap_i64]; omega
  have cm : IntKind.i64.wrap (wk % 8) = wk % 8 := by rw [IntKind.wrap_i64]; omega
  have cn : IntKind.i64.wrap (N : Int) = N := by rw [IntKind.wrap_i64]; omega
  have HU := Lib.hid hu
  have HI := Lib.hid (intsOn_at hc)
  have WUS := Lib.hid wus
  have HKN := Lib.hid hkn
  have HM := Lib.hid (much_6 us [] _ (.slice none 0 0) ca cs.length cc w hu (fun x hx => ⟨(wus x hx).lr, (wus x hx).ll⟩) hul (ExprsAt.iff.2 ⟨none, 0, rfl, fun _ => rfl, fun h => absurd rfl h⟩) (fun e he => by cases he) (by simp) (by omega))
  clear hu hc wus hkn
  go_enter Tryz.func5, Tryz.ntmps5
  go_wp2_with fail
  refine HM.out.mono ?_
  rintro e w2 ⟨b1, rfl, hm1, hb2⟩
  have HB2 := Lib.hid hb2
  rcases b1 with _ | _
  · have hm2 := hm1 rfl
    have hn300 : us.length ≤ 300 := by omega
    have hcs : cs.length ≤ 300 := by omega
    have FUS := Lib.hid (fun u hu => (WUS.out u hu).fits (hm2.2 u hu))
    have HFW := Lib.hid hm2.2
    have HK := Lib.hid (HKN.out w2 hb2)
    clear hb2 hm1 hm2
    go_wp2_with fail
    refine HK.out.mono ?_
    rintro e w3 ⟨rfl, hb3⟩
    have HB3 := Lib.hid (stepB HB2.out hb3)
    have hv := valid_8 us _ w3 (HU.out.below HB3.out) FUS.out (by omega)
    obtain ⟨V, eV⟩ : ∃ V, V = validU us := ⟨_, rfl⟩
    rw [← eV] at hv
    have HV := Lib.hid hv
    have EV := Lib.hid eV
    clear hb3 hv eV HK
    go_wp2_with fail
    refine HV.out.mono ?_
    rintro e w4 ⟨rfl, hb4⟩
    have HB4 := Lib.hid (stepB HB3.out hb4)
    clear hb4 HV
    rcases V with _ | _
    · go_wp2_with fail
      go_ret
      exact ⟨rfl, HB4.out⟩
    · have GU := Lib.hid (valid_goods EV.out.symm FUS.out HFW.out)
      go_wp2_with fail
      go_loopg [9, 10] N (fun g s9 s10 wr => ∃ (i : Nat) (xs : List Value), i ≤ N ∧ g = N - i ∧ s10 = .int .i64 i ∧ wr.ownsRow w4.heap.size 51 4 s9 (shares cs N us i).length xs ∧ ElsT wr xs (shares cs N us i) ∧ Below w4.heap.size w4 wr)
      case atStart => exact ⟨0, [], Nat.zero_le _, rfl, rfl, World.ownsRow_nil _ _ _ _, ElsT.nil, Below.refl _ _⟩
      case round =>
        obtain ⟨i, xs, hi, hgi, rfl, hown, hels, hbr⟩ := hrel
        obtain ⟨oa, oc, rfl⟩ := ownsRow_slice hown
        have hsl := shares_len cs (n := N) (by omega) us i
        obtain ⟨M, eM⟩ : ∃ M, M = (shares cs N us i).length := ⟨_, rfl⟩
        rw [← eM] at hown hsl ⊢
        have HB5 := Lib.hid (stepB HB4.out hbr)
        have HOWN := Lib.hid hown
        have HELS := Lib.hid hels
        have HBR := Lib.hid hbr
        have EM := Lib.hid eM
        have hsr := hbr.size
        clear hown hels hbr eM
        by_cases hlt : i < N
        · have HP := Lib.hid (part_16T us cs N i ua uc _ wr (HU.out.below HB5.out) hn300 GU.out (HI.out.below HB5.out) (by omega) (by omega) (by omega))
          go_wp2_with fail
          refine HP.out.mono ?_
          rintro e w6 ⟨ov, rfl, ho, hb6⟩
          have HB6 := Lib.hid (stepB HB5.out hb6)
          have HBR6 := Lib.hid (stepB HBR.out hb6)
          have HO := Lib.hid ho
          have HOWN6 := Lib.hid (Below.ownsRow' hb6 HOWN.out)
          have HELS6 := Lib.hid (HELS.out.kt (Kt.of_below hb6))
          obtain ⟨pa, pc, rfl⟩ := ho.at.slice
          have HQ := Lib.hid (refpart_17 us cs N i ua uc _ w6 (HU.out.below HB6.out) hn300 GU.out (HI.out.below HB6.out) (by omega) (by omega) (by omega))
          clear HP hb6 ho HOWN HELS HB5 HBR
          go_wp2_with fail
          refine HQ.out.mono ?_
          rintro e w7 ⟨qv, rfl, hq, hb7⟩
          have HB7 := Lib.hid (stepB HB6.out hb7)
          have HBR7 := Lib.hid (stepB HBR6.out hb7)
          have HO7 := Lib.hid (HO.out.below hb7)
          have HOWN7 := Lib.hid (Below.ownsRow' hb7 HOWN6.out)
          have HELS7 := Lib.hid (HELS6.out.kt (Kt.of_below hb7))
          have hpl : (allF (partD cs N i) us).length ≤ us.length := allF_len us
          have HS := Lib.hid (sameUpdates_10 _ _ (allF (partD cs N i) us) w7 HO7.out.at hq (by omega) (fun u hu => by
            rw [allF_part] at hu
            have h := FUS.out u (List.mem_filter.1 hu).1
            exact ⟨h.lr, h.ll⟩))
          clear HQ hb7 hq HO HOWN6 HELS6 HB6 HBR6
          go_wp2_with fail
          refine HS.out.mono ?_
          rintro e w8 ⟨rfl, hb8⟩
          have HB8 := Lib.hid (stepB HB7.out hb8)
          have HBR8 := Lib.hid (stepB HBR7.out hb8)
          have HOWN8 := Lib.hid (Below.ownsRow' hb8 HOWN7.out)
          have HELS8 := Lib.hid (HELS7.out.kt (Kt.of_below hb8))
          obtain ⟨yb, ys, hyo, hys⟩ := HO7.out.below hb8
          have hyc := owns_cells hyo
          have hyn : pa = none → (allF (partD cs N i) us).length = 0 ∧ pc = 0 := fun e => by subst e; exact owns_none hyo
          have HYS := Lib.hid hys
          have HYC := Lib.hid hyc
          have HYN := Lib.hid hyn
          have hs8 := HBR8.out.size
          obtain ⟨m, em⟩ : ∃ m, m = (allF (partD cs N i) us).length := ⟨_, rfl⟩
          rw [← em] at hpl ⊢
          have EMM := Lib.hid em
          clear HS hb8 HO7 HOWN7 HELS7 HB7 HBR7 hys hyc hyn hyo em
          go_wp2_with (at_builtin; go_must (refine wpList_append_any _ rfl _ _ 22 rfl w4.heap.size 51 i0 _ 4 64 Tryz.underlying22 hi0 hz0 hz1 hz2 rfl (by decide) _ M xs rfl HOWN8.out _ _ _ ys rfl (fun e => ⟨by rw [EMM.out]; exact (HYN.out e).1, (HYN.out e).2⟩) (by rw [HYS.out.len, EMM.out]) HYC.out HYS.out.els.ones (by unfold maxLen; omega) (by omega) hs8 ?_))
          intro v9 w9 hown9 hgrow9
          obtain ⟨oa9, oc9, rfl⟩ := ownsRow_slice hown9
          have hb9 := HBR8.out.grown hgrow9 hs8 (fun g hg => (HOWN8.out.lt g hg).1)
          have HB9 := Lib.hid hb9
          have HELS9 := Lib.hid ((HELS8.out.append HYS.out).kt (Kt.grown HOWN8.out hgrow9))
          have HO9 := Lib.hid hown9
          clear hown9 hgrow9 hb9
          go_wp2_with fail
          go_roundg (N - (i + 1))
          case measure => omega
          case rel =>
            have e1 : (shares cs N us (i + 1)).length = M + m := by
              show (shares cs N us i ++ allF (partD cs N i) us).length = _
              rw [List.length_append, EM.out, EMM.out]
            refine ⟨i + 1, xs ++ ys, by omega, rfl, by go_num, ?_, HELS9.out, HB9.out⟩
            rw [e1]
            exact HO9.out
        · have hiN : i = N := by omega
          subst hiN
          have hperm := shares_all cs (n := (i : Int)) (N := i) rfl (by omega) us
          have hMl : M = us.length := by rw [EM.out]; exact hperm.length_eq
          have hat := (HELS.out.els.at HOWN.out).2
          have HPM := Lib.hid hperm
          have HAT := Lib.hid hat
          clear hperm hat EM
          have HP0 := Lib.hid (part_none ua ca us.length uc cs.length cc wr)
          subst hMl
          go_wp2_with fail
          refine HP0.out.mono ?_
          rintro e w6 ⟨rfl, hb6⟩
          have HB6 := Lib.hid (stepB HB5.out hb6)
          have HAT6 := Lib.hid (HAT.out.below hb6)
          have hgs : ∀ u ∈ shares cs i us i, u.good := fun u hu => GU.out u (HPM.out.mem_iff.1 hu)
          have hls : (shares cs i us i).length ≤ 1000000 := by rw [HPM.out.length_eq]; omega
          have HA1 := Lib.hid (at_19 (shares cs i us i) 4611686018427387904 _ w6 HAT6.out (fun u hu => (hgs u hu).2.1.lr) hls)
          have HGS := Lib.hid hgs
          clear hb6 HP0 HAT hgs
          go_wp2_with fail
          refine HA1.out.mono ?_
          rintro e w7 ⟨c1, rfl, hc1, hb7⟩
          have HB7 := Lib.hid (stepB HB6.out hb7)
          have HC1 := Lib.hid hc1
          have HA2 := Lib.hid (at_19 us 4611686018427387904 _ w7 (HU.out.below HB7.out) (fun u hu => (FUS.out u hu).lr) (by omega))
          clear hb7 hc1 HA1
          go_wp2_with fail
          refine HA2.out.mono ?_
          rintro e w8 ⟨c2, rfl, hc2, hb8⟩
          have HB8 := Lib.hid (stepB HB7.out hb8)
          have hc1 := HC1.out.below hb8
          rw [sumC_perm HGS.out HPM.out] at hc1
          have hfw : Few ((us.filter (atE 4611686018427387904)).map cts) := fun y hy => by
            obtain ⟨z, hz, rfl⟩ := List.mem_map.1 hy
            exact (FUS.out z (List.mem_filter.1 hz).1).lr
          have hsl2 : (sumC ((us.filter (atE 4611686018427387904)).map cts)).length ≤ 1000000 := by
            have h1 := List.length_filter_le (fun u : Upd => decide (u.diff ≠ 0)) (((us.filter (atE 4611686018427387904)).map cts).foldl addC [])
            have h2 := foldC_len ((us.filter (atE 4611686018427387904)).map cts) []
            have h3 := List.length_filter_le (atE 4611686018427387904) us
            rw [List.length_map, List.length_nil] at h2
            unfold sumC
            omega
          have HSM := Lib.hid (sameCts_18 _ _ _ w8 hc1 hc2 (by omega) (fun u hu => foldC_few _ [] hfw (fun y hy => by cases hy) u (List.mem_filter.1 hu).1))
          clear hb8 hc1 hc2 HA2 hfw hsl2
          go_wp2_with fail
          refine HSM.out.mono ?_
          rintro e w9 ⟨rfl, hb9⟩
          have HB9 := Lib.hid (stepB HB8.out hb9)
          clear hb9 HSM
          go_wp2_with fail
          go_ret
          exact ⟨rfl, HB9.out⟩
  · have HK := Lib.hid (HKN.out w2 hb2)
    clear hb2
    go_wp2_with fail
    refine HK.out.mono ?_
    rintro e w3 ⟨rfl, hb3⟩
    have HB3 := Lib.hid (stepB HB2.out hb3)
    clear hb3 HK
    go_wp2_with fail
    go_ret
    exact ⟨rfl, HB3.out⟩
end Go.Proofs.YtlpehdhgdpeoeaaGreatDoor
