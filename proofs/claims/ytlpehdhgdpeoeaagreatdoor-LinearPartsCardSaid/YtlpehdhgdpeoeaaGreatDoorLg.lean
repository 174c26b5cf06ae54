import Derived.Test.YtlpehdhgdpeoeaaGreatDoorLf
/- The reference's Sum. -/
namespace Go.Proofs.YtlpehdhgdpeoeaaGreatDoor
open Go.RowKit Go.Pen Go.Shelf
attribute [local go_sem] Oper.semAt_some

theorem addU_len (l : List Upd) (u : Upd) : (addU l u).length ≤ l.length + 1 := by
  unfold addU
  obtain ⟨h1, -, -⟩ := cut_spec u l l.length
  split
  · simp
  · simp only [List.length_append, List.length_take, List.length_cons, List.length_drop]
    omega
theorem fold_len : ∀ (l a : List Upd), (l.foldl addU a).length ≤ a.length + l.length
  | [], a => by simp
  | u :: l, a => by
    have h1 := fold_len l (addU a u)
    have h2 := addU_len a u
    simp only [List.foldl_cons, List.length_cons]
    omega
theorem addU_fits {l : List Upd} {u : Upd} (hl : ∀ x ∈ l, x.fits) (hu : u.fits) : ∀ x ∈ addU l u, x.fits := fun x hx => by
  rcases mem_add hx with rfl | h | ⟨y, hy, n, rfl⟩
  · exact hu
  · exact hl x h
  · have hf := hl y hy
    exact { hf with diff := wrap_in n }
theorem fold_fits : ∀ (l a : List Upd), (∀ x ∈ l, x.fits) → (∀ x ∈ a, x.fits) → ∀ x ∈ l.foldl addU a, x.fits
  | [], _, _, ha => ha
  | u :: l, a, hl, ha => fold_fits l (addU a u) (fun x hx => hl x (by simp [hx])) (addU_fits ha (hl u (by simp)))
theorem fold_take {l : List Upd} {k : Nat} {u : Upd} (h : l[k]? = some u) : (l.take (k + 1)).foldl addU [] = addU ((l.take k).foldl addU []) u := by
  rw [List.take_add_one, h]; simp [List.foldl_append]

set_option maxRecDepth 100000 in
set_option maxHeartbeats 1000000 in
theorem sum_11 (us : List Upd) (v : Value) (w : World) (h : UpsAt w v us) (fus : ∀ x ∈ us, x.fits) (hn : us.length ≤ 1000000) :
    Calls Tryz.prog 11 #[v] w fun ev w' => ∃ v', ev = .returned v' ∧ UpsAt w' v' (sumU us) ∧ Below w.heap.size w w' := by
  obtain ⟨i0, hi0, hz0, hz1, hz2⟩ := info_parts info51
  obtain ⟨a, c, rfl, hz, hat⟩ := h
  obtain ⟨n, en⟩ : ∃ n, n = us.length := ⟨_, rfl⟩
  rw [← en] at hn ⊢
  have EN := Lib.hid en
  have HAT := Lib.hid hat
  have FUS := Lib.hid fus
  clear en hat fus
  go_enter Tryz.func11, Tryz.ntmps11
  go_wp2_with fail
  go_loopg [3, 4] n (fun g s3 s4 wr => ∃ k : Nat, k ≤ n ∧ g = n - k ∧ s4 = .int .i64 k ∧ UpsAt wr s3 ((us.take k).foldl addU []) ∧ (∀ a n c, s3 = .slice a n c → n ≤ c) ∧ Below w.heap.size w wr)
  case atStart => exact ⟨0, Nat.zero_le _, by omega, rfl, UpsAt.nil, fun a n c e => by cases e; exact Nat.le_refl _, Below.refl _ _⟩
  case round =>
    obtain ⟨k, hk, hgk, rfl, hup, hcap, hbr⟩ := hrel
    have HUP := Lib.hid hup
    have HCAP := Lib.hid hcap
    have HBR := Lib.hid hbr
    clear hup hcap hbr
    by_cases hlt : k < n
    · obtain ⟨x, hx⟩ : ∃ x, us[k]? = some x := ⟨us[k]'(by rw [← EN.out]; exact hlt), List.getElem?_eq_getElem _⟩
      obtain ⟨b, o, rfl, hg⟩ := HAT.out (fun e => by rw [e] at hx; simp at hx)
      obtain ⟨xrv, xlv, p0, p1, p2, p3, hxr, hxl⟩ := hg k x hx
      have p0 := cell_keep HBR.out p0
      have p1 := cell_keep HBR.out p1
      have p2 := cell_keep HBR.out p2
      have p3 := cell_keep HBR.out p3
      have hl : ((us.take k).foldl addU []).length ≤ 1000000 := by
        have := fold_len (us.take k) []
        simp only [List.length_take, List.length_nil] at this
        omega
      have hadd := add_28 ((us.take k).foldl addU []) x u3 xrv xlv wr HUP.out (hxr.below HBR.out) (hxl.below HBR.out) (fold_fits _ _ (fun y hy => FUS.out y (List.mem_of_mem_take hy)) (fun y hy => by cases hy)) (FUS.out x (List.mem_of_getElem? hx)) hl HCAP.out
      rw [← fold_take hx] at hadd
      unfold upV at hadd
      have HADD := Lib.hid hadd
      clear hadd hg hxr hxl hl
      go_wp2_with (go_at_call 28; refine HADD.out.mono ?_; rintro e w5 ⟨v5, rfl, hu5, hc5, hb5⟩)
      go_roundg (n - (k + 1))
      case measure => omega
      case rel => exact ⟨k + 1, by omega, rfl, by go_num, hu5, hc5, HBR.out.trans (hb5.mono HBR.out.size)⟩
    · have hkn : k = us.length := by have := EN.out; omega
      have hup := HUP.out
      rw [hkn, List.take_length] at hup
      have hfa : ∀ x ∈ us.foldl addU [], x.fits := fold_fits us [] FUS.out (fun y hy => by cases hy)
      have hla : (us.foldl addU []).length ≤ 1000000 := by
        have := fold_len us []
        have := EN.out
        simp only [List.length_nil] at *
        omega
      obtain ⟨A, eA⟩ : ∃ A, A = us.foldl addU [] := ⟨_, rfl⟩
      rw [← eA] at hup hfa hla
      have EA := Lib.hid eA
      obtain ⟨a3, c3, rfl, hz3, hat3⟩ := hup
      obtain ⟨m, em⟩ : ∃ m, m = A.length := ⟨_, rfl⟩
      rw [← em] at hla ⊢
      have EM := Lib.hid em
      have HAT3 := Lib.hid hat3
      have hs3 := HBR.out.size
      clear eA em hat3 hfa HUP hkn
      obtain ⟨w3, rfl⟩ : ∃ w3, w3 = wr := ⟨_, rfl⟩
      go_wp2_with fail
      go_loopg [5, 6] m (fun g s5 s6 ws => ∃ (j q : Nat) (xs : List Value), j ≤ m ∧ g = m - j ∧ s6 = .int .i64 j ∧ q ≤ j ∧ ws.ownsRow w3.heap.size 51 4 s5 q xs ∧ Els w3 xs ((A.take j).filter fun u => decide (u.diff ≠ 0)) ∧ Below w3.heap.size w3 ws)
      case atStart => exact ⟨0, 0, [], Nat.zero_le _, by omega, rfl, Nat.le_refl _, World.ownsRow_nil _ _ _ _, by simpa using Els.nil, Below.refl _ _⟩
      case round =>
        obtain ⟨j, q, xs, hj, hgj, rfl, hqj, hown, hels, hbs⟩ := hrel
        have HOWN := Lib.hid hown
        have HELS := Lib.hid hels
        have HBS := Lib.hid hbs
        obtain ⟨oa, oc, rfl⟩ := ownsRow_slice hown
        have hss := hbs.size
        clear hown hels hbs
        by_cases hjm : j < m
        · obtain ⟨x, hx⟩ : ∃ x, A[j]? = some x := ⟨A[j]'(by rw [← EM.out]; exact hjm), List.getElem?_eq_getElem _⟩
          obtain ⟨b, o, rfl, hg⟩ := HAT3.out (fun e => by rw [e] at hx; simp at hx)
          obtain ⟨xrv, xlv, p0, p1, p2, p3, hxr, hxl⟩ := hg j x hx
          obtain ⟨xa, xc, rfl⟩ := rowAt_slice hxr
          obtain ⟨xl, xd, rfl⟩ := hxl.slice
          obtain ⟨xn, exn⟩ : ∃ xn, xn = x.row.length := ⟨_, rfl⟩
          obtain ⟨xm, exm⟩ : ∃ xm, xm = x.loops.length := ⟨_, rfl⟩
          rw [← exn] at p0 hxr
          rw [← exm] at p2 hxl
          have p0 := cell_keep HBS.out p0
          have p1 := cell_keep HBS.out p1
          have p2 := cell_keep HBS.out p2
          have p3 := cell_keep HBS.out p3
          have HXR := Lib.hid hxr
          have HXL := Lib.hid hxl
          have HX := Lib.hid hx
          clear hg hxr hxl hx exn exm
          by_cases hd : x.diff = 0
          · have htk : (A.take (j + 1)).filter (fun u => decide (u.diff ≠ 0)) = (A.take j).filter fun u => decide (u.diff ≠ 0) := by
              rw [List.take_add_one, HX.out]; simp [hd]
            have HTK := Lib.hid htk
            have hd2 : (x.diff == 0) = true := by simp [hd]
            clear htk
            go_wp2_with fail
            go_roundg (m - (j + 1))
            case measure => omega
            case rel => exact ⟨j + 1, q, xs, by omega, rfl, by go_num, by omega, HOWN.out, by rw [HTK.out]; exact HELS.out, HBS.out⟩
          · have htk : (A.take (j + 1)).filter (fun u => decide (u.diff ≠ 0)) = ((A.take j).filter fun u => decide (u.diff ≠ 0)) ++ [x] := by
              rw [List.take_add_one, HX.out]; simp [hd]
            have HTK := Lib.hid htk
            have hd2 : (x.diff == 0) = false := by simp [hd]
            clear htk
            go_wp2_with (at_builtin; go_must (refine wpList_append_lies _ rfl _ _ 22 rfl w3.heap.size 51 i0 _ 4 64 Tryz.underlying22 hi0 hz0 hz1 hz2 rfl (by decide) _ q xs rfl (HOWN.out.alloc _) ⟨_, 0, none⟩ 1 1 [.slice xa xn xc, .int .u64 x.epoch, .slice xl xm xd, .int .i64 x.diff] rfl rfl ?c1 ?c2 (by decide) ?c3 ?c4 ?c5 _ rfl ?_))
            case c1 => first | exact fun _ _ hj => hj | exact World.news_of_block (cs := #[.slice xa xn xc, .int .u64 x.epoch, .slice xl xm xd, .int .i64 x.diff]) (heap_alloc_new _ _)
            case c2 => intro y hy; simp at hy; rcases hy with rfl | rfl | rfl | rfl <;> rfl
            case c3 => unfold maxLen; omega
            case c4 => omega
            case c5 => first | omega | (simp; omega)
            intro g8 cap8 w8 hown8 hgrow8 _ _
            have HB8 := Lib.hid ((HBS.out.alloc (o := .cells #[.slice xa xn xc, .int .u64 x.epoch, .slice xl xm xd, .int .i64 x.diff] 51) HBS.out.size).grown hgrow8 (by rw [World.size_alloc]; omega) (fun g hg => (HOWN.out.lt g hg).1))
            have HO8 := Lib.hid hown8
            clear hown8 hgrow8
            go_wp2_with fail
            go_roundg (m - (j + 1))
            case measure => omega
            case rel =>
              refine ⟨j + 1, q + 1, _, by omega, rfl, by go_num, by omega, HO8.out, ?_, HB8.out⟩
              rw [HTK.out]
              exact HELS.out.append (Els.one HXR.out HXL.out)
        · have hjm' : j = A.length := by have := EM.out; omega
          have he := HELS.out
          rw [hjm', List.take_length] at he
          go_wp2_with fail
          go_ret
          refine ⟨_, rfl, ?_, HBR.out.trans (HBS.out.mono HBR.out.size)⟩
          unfold sumU
          rw [← EA.out]
          exact ((he.below HBS.out).at HOWN.out).2
end Go.Proofs.YtlpehdhgdpeoeaaGreatDoor
