import Derived.Test.YtlpehdhgdpeoeaaGreatDoorLh
/- much. -/
namespace Go.Proofs.YtlpehdhgdpeoeaaGreatDoor
open Go.RowKit Go.Pen Go.Shelf
attribute [local go_sem] Oper.semAt_some

/-- what a slice of expressions reads as -/
def ExprsAt (w : World) (v : Value) (es : List ET) : Prop := (ET.mk 0 0 nul es).At w v
theorem ExprsAt.iff {w : World} {v : Value} {es : List ET} : ExprsAt w v es ↔ ∃ a c, v = .slice a es.length c ∧ (a = none → c = 0) ∧ (es ≠ [] → ∃ b o, a = some ⟨b, o, none⟩ ∧ True ∧ ET.Ons (fun _ => True) w es b o) := ET.On.iff
theorem ExprsAt.below {w w' : World} {v : Value} {es : List ET} (h : ExprsAt w v es) (hb : Below w.heap.size w w') : ExprsAt w' v es := ET.On.below h hb

/-- an update that came in: what it holds is within its types -/
structure Upd.wide (u : Upd) : Prop where
  row : ∀ d ∈ u.row, d.fits
  ep : 0 ≤ u.epoch ∧ u.epoch ≤ 18446744073709551615
  lo : ∀ x ∈ u.loops, 0 ≤ x ∧ x ≤ 4294967295
  diff : InR u.diff
  lr : u.row.length ≤ 140737488355328
  ll : u.loops.length ≤ 140737488355328
/-- no more than is looked at -/
def Upd.few (u : Upd) : Prop := u.row.length ≤ 4815 ∧ u.loops.length ≤ 1203
theorem Upd.wide.fits {u : Upd} (h : u.wide) (k : u.few) : u.fits := ⟨h.row, h.ep, h.lo, h.diff, Nat.le_trans k.1 (by decide), Nat.le_trans k.2 (by decide)⟩
theorem few_take {us : List Upd} {k : Nat} {x : Upd} (hx : us[k]? = some x) (h : ∀ u ∈ us.take k, u.few) (hf : x.row.length / 16 + x.loops.length / 4 ≤ 300) : ∀ u ∈ us.take (k + 1), u.few := fun u hu => by
  rw [List.take_add_one, hx] at hu
  rcases List.mem_append.1 hu with hu | hu
  · exact h u hu
  · simp at hu
    subst hu
    exact ⟨by omega, by omega⟩

set_option maxRecDepth 100000 in
set_option maxHeartbeats 1000000 in
theorem much_6 (us : List Upd) (es : List ET) (v ev : Value) (cb : Option Addr) (cn cc : Nat) (w : World) (h : UpsAt w v us) (fus : ∀ x ∈ us, x.row.length ≤ 140737488355328 ∧ x.loops.length ≤ 140737488355328) (hul : us.length ≤ 140737488355328) (he : ExprsAt w ev es) (fes : ∀ e ∈ es, e.fits) (hel : es.length ≤ 140737488355328) (hcn : cn ≤ 140737488355328) :
    Calls Tryz.prog 6 #[v, ev, .slice cb cn cc] w fun e w' => ∃ b : Bool, e = .returned (.bool b) ∧ (b = false → us.length + cn + es.length ≤ 300 ∧ ∀ u ∈ us, u.few) ∧ Below w.heap.size w w' := by
  obtain ⟨a, uc, rfl, -, hat⟩ := h
  obtain ⟨ea, ec, rfl, -, heo⟩ := ExprsAt.iff.1 he
  obtain ⟨n, en⟩ : ∃ n, n = us.length := ⟨_, rfl⟩
  obtain ⟨K, eK⟩ : ∃ K, K = es.length := ⟨_, rfl⟩
  rw [← en] at hul ⊢
  rw [← eK] at hel ⊢
  have EN := Lib.hid en
  have EK := Lib.hid eK
  have HAT := Lib.hid hat
  have HEO := Lib.hid heo
  have FUS := Lib.hid fus
  have FES := Lib.hid fes
  clear en eK hat heo fus fes he
  go_enter Tryz.func6, Tryz.ntmps6
  go_wp2_with fail
  go_loopg [7, 8] n (fun g s7 s8 wr => ∃ k m : Nat, k ≤ n ∧ g = n - k ∧ s7 = .int .i64 m ∧ s8 = .int .i64 k ∧ (n + cn ≤ m ∧ m ≤ 300000000000000) ∧ (m ≤ 300 → ∀ u ∈ us.take k, u.few) ∧ Below w.heap.size w wr)
  case atStart => exact ⟨0, n + cn, Nat.zero_le _, by omega, by go_num, rfl, by omega, (fun _ u hu => by simp at hu), Below.refl _ _⟩
  case round =>
    obtain ⟨k, m, hk, hgk, rfl, rfl, ⟨hm1, hm2⟩, hfew, hbr⟩ := hrel
    have HBR := Lib.hid hbr
    have HFW := Lib.hid hfew
    clear hbr hfew
    by_cases hlt : k < n
    · by_cases hm : m ≤ 300
      · obtain ⟨x, hx⟩ : ∃ x, us[k]? = some x := ⟨us[k]'(by rw [← EN.out]; exact hlt), List.getElem?_eq_getElem _⟩
        obtain ⟨b, o, rfl, hg⟩ := HAT.out (fun e => by rw [e] at hx; simp at hx)
        obtain ⟨xrv, xlv, p0, p1, p2, p3, hxr, hxl⟩ := hg k x hx
        have hfx := FUS.out x (List.mem_of_getElem? hx)
        have hl1 := hfx.1
        have hl2 := hfx.2
        have HNF := Lib.hid (fun h => few_take hx (HFW.out hm) h)
        obtain ⟨xa, xc, rfl⟩ := rowAt_slice hxr
        obtain ⟨xl, xd, rfl⟩ := hxl.slice
        obtain ⟨xn, exn⟩ : ∃ xn, xn = x.row.length := ⟨_, rfl⟩
        obtain ⟨xm, exm⟩ : ∃ xm, xm = x.loops.length := ⟨_, rfl⟩
        rw [← exn] at p0 hl1
        rw [← exm] at p2 hl2
        rw [← exn, ← exm] at HNF
        have p0 := cell_keep HBR.out p0
        have p2 := cell_keep HBR.out p2
        clear hg hxr hxl hx exn exm hfx p1 p3
        go_wp2_with fail
        go_quiet (fail)
        go_wp2
        go_roundg (n - (k + 1))
        case measure => omega
        case rel => exact ⟨k + 1, m + (xn / 16 + xm / 4), by omega, rfl, by go_num, by go_num, by omega, (fun h => HNF.out (by omega)), Go.Pen.below_drewN HBR.out⟩
      · obtain ⟨w3, rfl⟩ : ∃ w3, w3 = wr := ⟨_, rfl⟩
        have hs3 := HBR.out.size
        go_wp2_with fail
        go_loopg [7, 9] K (fun g s7 s9 ws => ∃ j q : Nat, j ≤ K ∧ g = K - j ∧ s7 = .int .i64 q ∧ s9 = .int .i64 j ∧ (n + cn + j ≤ q ∧ q ≤ 300000000000000000) ∧ (q ≤ 300 → ∀ u ∈ us, u.few) ∧ Below w.heap.size w ws)
        case atStart => exact ⟨0, m, Nat.zero_le _, by omega, rfl, rfl, by omega, (fun h => absurd h hm), HBR.out⟩
        case round =>
          obtain ⟨j, q, hj, hgj, rfl, rfl, ⟨hq1, hq2⟩, hfq, hbs⟩ := hrel
          have HBS := Lib.hid hbs
          have HFQ := Lib.hid hfq
          clear hbs hfq
          by_cases hjt : j < K
          · by_cases hq : q ≤ 300
            · obtain ⟨x, hx⟩ : ∃ x, es[j]? = some x := ⟨es[j]'(by rw [← EK.out]; exact hjt), List.getElem?_eq_getElem _⟩
              obtain ⟨b, o, rfl, -, hg⟩ := HEO.out (fun e => by rw [e] at hx; simp at hx)
              obtain ⟨kv, hkc, hkat⟩ := hg.get hx
              obtain ⟨a', c', rfl⟩ := hkat.slice
              obtain ⟨k0, k1, k2, k3, k4, k5, k6⟩ := hkc.below HBS.out
              have hct := mass_20 x _ q wr (hkat.below HBS.out) (FES.out x (List.mem_of_getElem? hx)) hq
              unfold ET.agg at hct
              have HCT := Lib.hid hct
              clear hg hkc hkat hct hx
              go_wp2_with (go_at_call 20; refine HCT.out.mono ?_; rintro e w5 ⟨m2, rfl, ⟨y1, y2⟩, hb5⟩)
              go_roundg (K - (j + 1))
              case measure => omega
              case rel => exact ⟨j + 1, m2, by omega, rfl, by go_num, by go_num, by omega, (fun h => HFQ.out (by omega)), HBS.out.trans (hb5.mono HBS.out.size)⟩
            · go_wp2_with fail
              go_ret
              exact ⟨_, rfl, (fun h => ⟨by have h : ¬ (300 : Int) < q := (by revert h; simp); omega, HFQ.out (by have h : ¬ (300 : Int) < q := (by revert h; simp); omega)⟩), HBS.out⟩
          · go_wp2_with fail
            go_ret
            exact ⟨_, rfl, (fun h => ⟨by have h : ¬ (300 : Int) < q := (by revert h; simp); omega, HFQ.out (by have h : ¬ (300 : Int) < q := (by revert h; simp); omega)⟩), HBS.out⟩
    · obtain ⟨w3, rfl⟩ : ∃ w3, w3 = wr := ⟨_, rfl⟩
      have hs3 := HBR.out.size
      go_wp2_with fail
      go_loopg [7, 9] K (fun g s7 s9 ws => ∃ j q : Nat, j ≤ K ∧ g = K - j ∧ s7 = .int .i64 q ∧ s9 = .int .i64 j ∧ (n + cn + j ≤ q ∧ q ≤ 300000000000000000) ∧ (q ≤ 300 → ∀ u ∈ us, u.few) ∧ Below w.heap.size w ws)
      case atStart => exact ⟨0, m, Nat.zero_le _, by omega, rfl, rfl, by omega, (fun h u hu => HFW.out h u (by rw [List.take_of_length_le (by have := EN.out; omega)]; exact hu)), HBR.out⟩
      case round =>
        obtain ⟨j, q, hj, hgj, rfl, rfl, ⟨hq1, hq2⟩, hfq, hbs⟩ := hrel
        have HBS := Lib.hid hbs
        have HFQ := Lib.hid hfq
        clear hbs hfq
        by_cases hjt : j < K
        · by_cases hq : q ≤ 300
          · obtain ⟨x, hx⟩ : ∃ x, es[j]? = some x := ⟨es[j]'(by rw [← EK.out]; exact hjt), List.getElem?_eq_getElem _⟩
            obtain ⟨b, o, rfl, -, hg⟩ := HEO.out (fun e => by rw [e] at hx; simp at hx)
            obtain ⟨kv, hkc, hkat⟩ := hg.get hx
            obtain ⟨a', c', rfl⟩ := hkat.slice
            obtain ⟨k0, k1, k2, k3, k4, k5, k6⟩ := hkc.below HBS.out
            have hct := mass_20 x _ q wr (hkat.below HBS.out) (FES.out x (List.mem_of_getElem? hx)) hq
            unfold ET.agg at hct
            have HCT := Lib.hid hct
            clear hg hkc hkat hct hx
            go_wp2_with (go_at_call 20; refine HCT.out.mono ?_; rintro e w5 ⟨m2, rfl, ⟨y1, y2⟩, hb5⟩)
            go_roundg (K - (j + 1))
            case measure => omega
            case rel => exact ⟨j + 1, m2, by omega, rfl, by go_num, by go_num, by omega, (fun h => HFQ.out (by omega)), HBS.out.trans (hb5.mono HBS.out.size)⟩
          · go_wp2_with fail
            go_ret
            exact ⟨_, rfl, (fun h => ⟨by have h : ¬ (300 : Int) < q := (by revert h; simp); omega, HFQ.out (by have h : ¬ (300 : Int) < q := (by revert h; simp); omega)⟩), HBS.out⟩
        · go_wp2_with fail
          go_ret
          exact ⟨_, rfl, (fun h => ⟨by have h : ¬ (300 : Int) < q := (by revert h; simp); omega, HFQ.out (by have h : ¬ (300 : Int) < q := (by revert h; simp); omega)⟩), HBS.out⟩
end Go.Proofs.YtlpehdhgdpeoeaaGreatDoor
