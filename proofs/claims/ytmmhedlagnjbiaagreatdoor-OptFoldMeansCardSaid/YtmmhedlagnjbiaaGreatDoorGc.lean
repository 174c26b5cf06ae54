import Derived.Test.YtmmhedlagnjbiaaGreatDoorBase
import Derived.Deep.Slices
import Derived.SizedLaws
import Derived.Test.YtmmhedlagnjbiaaGreatDoorGa
import Derived.Test.YtmmhedlagnjbiaaGreatDoorEa
import Derived.Test.YtmmhedlagnjbiaaGreatDoorFm
/- our texts, shortened by program (pack.py) -/
set_option maxRecDepth 100000
set_option maxHeartbeats 2000000
namespace Go.Proofs.YtmmhedlagnjbiaaGreatDoor
open Go.RowKit Go.Pen
section
variable {H : Type} {enc : TypeId × Value → H} {w : World} {base : Nat} {spare : Nat → Bool} {held : Bool}
theorem addr_plain {w : World} {x : Addr} {v : Value} (h : w.cell? x = some v) : ∃ bl off, x = ⟨bl, off, none⟩ := by
 obtain ⟨bl, off, sp⟩ := x
 unfold World.cell? at h
 cases sp with
 | none => exact ⟨bl, off, rfl⟩
 | some y => split at h <;> simp at h
theorem add_zero' (x : Addr) : x.add 0 = x := by
 obtain ⟨bl, off, sp⟩ := x
 rfl
theorem range_at {α : Type} {q : Nat → α} {len i : Nat} {x : α} (h : ((List.range len).map q)[i]? = some x) : i < len ∧ x = q i := by
 rw [List.getElem?_map] at h
 obtain ⟨j, hj, rfl⟩ := Option.map_eq_some_iff.1 h
 obtain ⟨hlt, hjj⟩ := List.getElem?_eq_some_iff.1 hj
 rw [List.length_range] at hlt
 rw [List.getElem_range] at hjj
 exact ⟨hlt, by rw [hjj]⟩
theorem weightsAll_mem {P : Program} {e : TypeId} {d : DataW H} {n : Nat} : ∀ {l : List (DataW H)}, d ∈ l → n ∈ d.weights P e → n ∈ DataW.weightsAll P e l
 | [], h, _ => by cases h
 | x :: r, h, hn => by
  simp only [DataW.weightsAll, List.mem_append]
  rcases List.mem_cons.1 h with rfl | h
  ·exact .inl hn
  ·exact .inr (weightsAll_mem h hn)
theorem slice_weights {P : Program} {t e : TypeId} {l rest : List (DataW H)} (hu : P.underlying t = some (.slice e)) (h : ∀ n ∈ (DataW.slice l rest).weights P t, n ≤ reachBytes) (hb : 1 ≤ P.bytesOf e) :
  l.length ≤ 140737488355328 ∧ ∀ d ∈ l, ∀ n ∈ d.weights P e, n ≤ reachBytes := by
 refine ⟨?_, fun d hd n hn => h n ?_⟩
 ·have h1 := h ((l.length + rest.length) * P.bytesOf e) (by simp [DataW.weights, hu])
  have h2 : l.length * 1 ≤ (l.length + rest.length) * P.bytesOf e := Nat.mul_le_mul (Nat.le_add_right _ _) hb
  unfold reachBytes at h1
  omega
 ·simp only [DataW.weights, hu, List.mem_cons, List.mem_append]
  exact .inr (.inl (weightsAll_mem hd hn))
theorem agg_weights {P : Program} {t : TypeId} {fs : Array Field} {xs : List (DataW H × List MemPlace)} (hu : P.underlying t = some (.struct fs)) (h : ∀ n ∈ (DataW.agg (xs.map (·.1))).weights P t, n ≤ reachBytes) {i : Nat} {f : Field} {y : DataW H × List MemPlace} (hf : fs[i]? = some f) (hy : xs[i]? = some y) :
  ∀ n ∈ y.1.weights P f.type, n ≤ reachBytes := fun n hn => by
 refine h n ?_
 simp only [DataW.weights, hu]
 refine DataW.weights_mem_each (j := i) ?_ ?_ n hn
 ·rw [List.getElem?_map, Array.getElem?_toList, hf]; rfl
 ·rw [List.getElem?_map, hy]; rfl
theorem text_weight {P : Program} {t : TypeId} {s : ByteArray} (h : ∀ n ∈ (DataW.lit (H := H) (.string s.data.toList)).weights P t, n ≤ reachBytes) : s.size ≤ 140737488355328 := by
 have h1 := h s.size (by simp [DataW.weights])
 unfold reachBytes at h1
 omega
theorem open_dat {fuel : Nat} {cs : List Value} {x : DataW H × List MemPlace} (hlen : cs.length = 4) (h : DataW.trod enc Tryz.prog w base spare held fuel 25 cs = some x) (hw : ∀ n ∈ x.1.weights Tryz.prog 25, n ≤ reachBytes) :
  ∃ d : Dat, cs = [.int .u8 d.kind, .bool d.bool, .int .i64 d.int, .string d.text] ∧ d.fits := by
 obtain ⟨xs, k, hk, hxy, _, hxl, hf⟩ := DataW.trod_struct Tryz.underlying25 h
 match xs, hxl, cs, hlen with
 | [y0, y1, y2, y3], _, [v0, v1, v2, v3], _ =>
  have g0 := hf 0 _ rfl
  have g1 := hf 1 _ rfl
  have g2 := hf 2 _ rfl
  have g3 := hf 3 _ rfl
  have c23 : Tryz.prog.cellsOf 23 = 1 := by kernel_rfl
  have c4 : Tryz.prog.cellsOf 4 = 1 := by kernel_rfl
  have c2 : Tryz.prog.cellsOf 2 = 1 := by kernel_rfl
  have c9 : Tryz.prog.cellsOf 9 = 1 := by kernel_rfl
  simp [c23, c4, c2, c9] at g0 g1 g2 g3
  rw [hxy] at hw
  have hw3 := agg_weights Tryz.underlying25 hw (i := 3) rfl rfl
  obtain ⟨n0, e0, -, w0⟩ := DataW.trod_int Tryz.underlying23 g0
  obtain ⟨n1, e1, -⟩ := DataW.trod_bool Tryz.underlying4 g1
  obtain ⟨n2, e2, -, w2⟩ := DataW.trod_int Tryz.underlying2 g2
  obtain ⟨n3, e3, x3, -⟩ := DataW.trod_string Tryz.underlying9 g3
  rw [x3] at hw3
  simp only [List.cons.injEq, and_true] at e0 e1 e2 e3
  subst e0 e1 e2 e3
  refine ⟨⟨n0, n1, n2, n3⟩, rfl, ?_, ?_, text_weight hw3⟩
  ·simpa [Lit.wf, IntKind.min, IntKind.max, IntKind.signed, IntKind.bits] using w0
  ·simpa [Lit.wf, IntKind.min, IntKind.max, IntKind.signed, IntKind.bits] using w2
def KidCells' (w : World) (a : Addr) (k : ET) (kv : Value) : Prop := ∀ (j : Nat), j < 7 → ∀ v, (k.cells kv)[j]? = some v → w.cell? (a.add j) = some v
theorem open_expr : ∀ (fuel : Nat) {cs : List Value} {x : DataW H × List MemPlace}, cs.length = 7 → DataW.trod enc Tryz.prog w base spare held fuel 27 cs = some x → (∀ n ∈ x.1.weights Tryz.prog 27, n ≤ reachBytes) →
  ∃ (e : ET) (a : Option Addr) (c : Nat), cs = e.cells (.slice a e.kids.length c) ∧ e.At w (.slice a e.kids.length c) ∧ e.fits := by
 intro fuel
 induction fuel using Nat.strongRecOn with
 | ind fuel ih =>
  intro cs x hlen h hw
  obtain ⟨xs, k, hk, hxy, _, hxl, hf⟩ := DataW.trod_struct Tryz.underlying27 h
  match xs, hxl, cs, hlen with
  | [y0, y1, y2, y3], _, [v0, v1, v2, v3, v4, v5, v6], _ =>
   have g0 := hf 0 _ rfl
   have g1 := hf 1 _ rfl
   have g2 := hf 2 _ rfl
   have g3 := hf 3 _ rfl
   have c5 : Tryz.prog.cellsOf 5 = 1 := by kernel_rfl
   have c22 : Tryz.prog.cellsOf 22 = 1 := by kernel_rfl
   have c3 : Tryz.prog.cellsOf 3 = 1 := by kernel_rfl
   have c25 : Tryz.prog.cellsOf 25 = 4 := by kernel_rfl
   simp [c5, c22, c3, c25] at g0 g1 g2 g3
   rw [hxy] at hw
   have hw1 := agg_weights Tryz.underlying27 hw (i := 1) rfl rfl
   have hw3 := agg_weights Tryz.underlying27 hw (i := 3) rfl rfl
   obtain ⟨n0, e0, -, w0⟩ := DataW.trod_int Tryz.underlying5 g0
   obtain ⟨n2, e2, -, w2⟩ := DataW.trod_int Tryz.underlying3 g2
   obtain ⟨d, e3, fd⟩ := open_dat rfl g3 hw3
   have f0 : 0 ≤ n0 ∧ n0 ≤ 255 := by simpa [Lit.wf, IntKind.min, IntKind.max, IntKind.signed, IntKind.bits] using w0
   have f2 : -9223372036854775808 ≤ n2 ∧ n2 ≤ 9223372036854775807 := by simpa [Lit.wf, IntKind.min, IntKind.max, IntKind.signed, IntKind.bits] using w2
   simp only [List.cons.injEq, and_true] at e0 e2 e3
   obtain ⟨rfl, rfl, rfl, rfl⟩ := e3
   subst e0 e2
   rcases DataW.trod_slice Tryz.underlying22 g1 with ⟨h0, -⟩ | ⟨a, len, cap, elems, rest, n, hn, h1, hx1, hb, hl, hm, hlen1, hel, -, -⟩
   ·simp only [List.cons.injEq, and_true] at h0
    subst h0
    exact ⟨.mk n0 n2 d [], none, 0, rfl, ET.On.iff.2 ⟨none, 0, rfl, fun _ => rfl, fun h => absurd rfl h⟩, by simp only [ET.fits, ET.fitss]; exact ⟨f0, f2, fd, by simp, trivial⟩⟩
   ·simp only [List.cons.injEq, and_true] at h1
    subst h1
    rw [hx1] at hw1
    obtain ⟨hwl, hwe⟩ := slice_weights Tryz.underlying22 hw1 (show 1 ≤ Tryz.prog.bytesOf 27 from by rw [show Tryz.prog.bytesOf 27 = 72 by kernel_rfl]; decide)
    rw [List.length_map, hlen1] at hwl
    have ce : Tryz.prog.cellsOf 27 = 7 := by kernel_rfl
    have each : ∀ i, i < len → ∃ k : ET, ∃ kv, KidCells' w (a.add (i * 7)) k kv ∧ k.At w kv ∧ k.fits := by
     intro i hi
     have h2 := hel i hi
     rw [ce, List.getElem?_eq_getElem (by omega : i < elems.length), Option.bind_eq_some_iff] at h2
     obtain ⟨cs', hcs, hy'⟩ := h2
     obtain ⟨_, hlen', hcell⟩ := World.cells?_some hcs
     obtain ⟨e, ea, ec, he, hat, hft⟩ := ih n (by omega) hlen' hy' (hwe _ (List.mem_map.2 ⟨_, List.getElem_mem _, rfl⟩))
     subst he
     refine ⟨e, _, fun j hj v hv => ?_, hat, hft⟩
     exact (hcell j hj).trans hv
    have : Inhabited ET := ⟨.mk 0 0 d []⟩
    obtain ⟨q, hq⟩ := Go.Deep.choose_lt each
    refine ⟨.mk n0 n2 d ((List.range len).map q), some a, cap, by simp [ET.cells, ET.op, ET.col, ET.lit, ET.kids], ET.On.iff.2 ⟨some a, cap, rfl, (fun h => by cases h), fun hne => ?_⟩, ?_⟩
    ·have h0 : 0 < len := by
      rcases Nat.eq_zero_or_pos len with e | h'
      ·subst e; exact absurd rfl hne
      ·exact h'
     obtain ⟨kv0, hk0, -, -⟩ := hq 0 h0
     have hz := hk0 0 (by decide) _ rfl
     rw [Nat.zero_mul, add_zero', add_zero'] at hz
     obtain ⟨bl, off, rfl⟩ := addr_plain hz
     refine ⟨bl, off, rfl, trivial, ET.Ons.mk fun i k hk => ?_⟩
     obtain ⟨hi, rfl⟩ := range_at hk
     obtain ⟨kv, hkc, hat, -⟩ := hq i hi
     have hc : ∀ (j : Nat), j < 7 → ∀ v, ((q i).cells kv)[j]? = some v → w.cell? ⟨bl, off + i * 7 + j, none⟩ = some v := fun j hj v hv => by
      have h := hkc j hj v hv
      rw [add_lit, add_lit] at h
      exact h
     exact ⟨kv, ⟨hc 0 (by decide) _ rfl, hc 1 (by decide) _ rfl, hc 2 (by decide) _ rfl, hc 3 (by decide) _ rfl, hc 4 (by decide) _ rfl, hc 5 (by decide) _ rfl, hc 6 (by decide) _ rfl⟩, hat⟩
    ·simp only [ET.fits]
     refine ⟨f0, f2, fd, by simpa using hwl, ET.fitss_iff.2 fun k hk => ?_⟩
     obtain ⟨i, hi, rfl⟩ := List.mem_map.1 hk
     obtain ⟨_, -, -, hft⟩ := hq i (List.mem_range.1 hi)
     exact hft
end
end Go.Proofs.YtmmhedlagnjbiaaGreatDoor
namespace Go.Proofs.YtmmhedlagnjbiaaGreatDoor
open Go.RowKit Go.Pen
section
variable {H : Type} {enc : TypeId × Value → H} {w : World} {base : Nat} {spare : Nat → Bool} {held : Bool}
theorem range_ne {α : Type} {q : Nat → α} {len : Nat} (hne : (List.range len).map q ≠ []) : 0 < len := by
 rcases Nat.eq_zero_or_pos len with e | h
 ·subst e; exact absurd rfl hne
 ·exact h
theorem open_ints {fuel : Nat} {cs : List Value} {x : DataW H × List MemPlace} (h : DataW.trod enc Tryz.prog w base spare held fuel 49 cs = some x) (hw : ∀ n ∈ x.1.weights Tryz.prog 49, n ≤ reachBytes) :
  ∃ a c xs, cs = [.slice a (List.length xs) c] ∧ IntsAt w (.slice a xs.length c) xs ∧ xs.length ≤ 17592186043904 := by
 rcases Go.Deep.open_slice1 Tryz.underlying49 (by kernel_rfl) h with h0 | ⟨a, len, cap, m, n, V, D, Pl, rfl, hb, hl, hm, hmm, rfl, hx⟩
 ·exact ⟨none, 0, [], h0.1, ⟨none, 0, rfl, fun _ => rfl, fun h => absurd rfl h⟩, by simp⟩
 have hlm : len ≤ m := by rw [hmm]; split <;> omega
 have hwl : len ≤ 17592186043904 := by
  have h1 : (len + (m - len)) * 8 ≤ reachBytes := by
   refine hw _ ?_
   have hb : Tryz.prog.bytesOf 3 = 8 := by kernel_rfl
   simp [DataW.weights, Tryz.underlying49, hb]
  unfold reachBytes at h1
  omega
 have each : ∀ i, i < len → ∃ z : Int, w.cell? (a.add i) = some (.int .i64 z) := fun i hi => by
  obtain ⟨h1, h2⟩ := hx i (by omega)
  obtain ⟨n0, e0, -, -⟩ := DataW.trod_int Tryz.underlying3 h2
  simp at e0
  exact ⟨n0, by rw [h1, e0]⟩
 obtain ⟨q, hq⟩ := Go.Deep.choose_lt each
 refine ⟨some a, cap, (List.range len).map q, by simp, ⟨some a, cap, by simp, (fun h => by cases h), fun hne => ?_⟩, by simpa using hwl⟩
 have h0 := range_ne hne
 have h0c := hq 0 h0
 rw [add_zero'] at h0c
 obtain ⟨bl, off, rfl⟩ := addr_plain h0c
 refine ⟨bl, off, rfl, fun i y hy => ?_⟩
 obtain ⟨hi, rfl⟩ := range_at hy
 have := hq i hi
 rwa [Go.Pen.add_lit] at this
end
end Go.Proofs.YtmmhedlagnjbiaaGreatDoor
namespace Go.Proofs.YtmmhedlagnjbiaaGreatDoor
open Go.RowKit Go.Pen
attribute [local go_sem ↓] Go.wp_at_zero Go.wp_at_succ
theorem info25 : (Tryz.prog.info? 25).map (fun i => (i.zero, i.size, i.bytes)) = some (some (.agg #[.int .u8 0, .bool false, .int .i64 0, .string .empty]), 4, 32) := by kernel_rfl
def Dat.cells (d : Dat) : List Value := [.int .u8 d.kind, .bool d.bool, .int .i64 d.int, .string d.text]
abbrev RowAt (w : World) (v : Value) (ds : List Dat) : Prop := DatsOn (fun _ => True) w ds v
theorem DatsOn.slice {S : Nat → Prop} {w : World} {v : Value} {xs : List Dat} (h : DatsOn S w xs v) : ∃ a c, v = .slice a xs.length c := by obtain ⟨a, c, rfl, _⟩ := h; exact ⟨a, c, rfl⟩
def rowCells (ds : List Dat) : List Value := ds.flatMap Dat.cells
def rowTail : List Value := [.int .u8 91, .bool false, .int .i64 0, .string ⟨#[]⟩, .int .u8 92, .bool false, .int .i64 0, .string ⟨#[]⟩]
theorem rowAt_of_owns {w : World} {base : Nat} {v : Value} {n : Nat} {ds : List Dat} (h : w.ownsRow base 25 4 v n (ds.flatMap Dat.cells)) : RowAt w v ds := by
 have hl : n = ds.length := by
  have := h.1
  have e : (ds.flatMap Dat.cells).length = ds.length * 4 := by
   clear this h
   induction ds with
   | nil => rfl
   | cons d ds ih => rw [List.flatMap_cons, List.length_append, ih]; simp [Dat.cells]; omega
  omega
 subst hl
 obtain ⟨a, c, rfl⟩ := ownsRow_slice h
 refine ⟨a, c, rfl, owns_nil h, fun hne => ?_⟩
 obtain ⟨g, cap, hv, _, _⟩ := h.form (by cases ds; exact absurd rfl hne; simp)
 simp only [Value.slice.injEq] at hv
 obtain ⟨rfl, _, rfl⟩ := hv
 refine ⟨g, 0, rfl, trivial, fun i d hd => ?_⟩
 have hc := (ownsRow_heap h).2.2.2
 have hget : ∀ j, j < 4 → (ds.flatMap Dat.cells)[i * 4 + j]? = d.cells[j]? := fun j hj => by
  clear hc h hne
  induction ds generalizing i with
  | nil => simp at hd
  | cons x ds ih =>
   rw [List.flatMap_cons]
   cases i with
   | zero =>
    simp at hd; subst hd
    rw [List.getElem?_append_left (by simp [Dat.cells]; omega)]
    simp
   | succ i =>
    rw [List.getElem?_append_right (by simp [Dat.cells]; omega)]
    have : (i + 1) * 4 + j - x.cells.length = i * 4 + j := by simp [Dat.cells]; omega
    rw [this]
    exact ih i (by simpa using hd)
 rw [Nat.zero_add]
 exact ⟨hc _ _ (hget 0 (by omega)), hc _ _ (hget 1 (by omega)), hc _ _ (hget 2 (by omega)), hc _ _ (hget 3 (by omega))⟩
theorem rowCells_len (ds : List Dat) : (rowCells ds).length = ds.length * 4 := by
 unfold rowCells
 induction ds with
 | nil => rfl
 | cons d ds ih => rw [List.flatMap_cons, List.length_append, ih]; simp [Dat.cells]; omega
theorem rowCells_one (ds : List Dat) : ∀ u ∈ rowCells ds, u.oneCell' = true := by
 intro u hu
 obtain ⟨d, -, hd⟩ := List.mem_flatMap.1 hu
 simp only [Dat.cells, List.mem_cons, List.not_mem_nil, or_false] at hd
 rcases hd with rfl | rfl | rfl | rfl <;> rfl
theorem rowCells_at : ∀ (ds : List Dat) (i : Nat) (d : Dat) (j : Nat), ds[i]? = some d → j < 4 → (rowCells ds)[i * 4 + j]? = d.cells[j]? := by
 intro ds
 induction ds with
 | nil => intro i d j h; simp at h
 | cons x ds ih =>
  intro i d j h hj
  unfold rowCells at ih ⊢
  rw [List.flatMap_cons]
  cases i with
  | zero =>
   simp at h; subst h
   rw [List.getElem?_append_left (by simp [Dat.cells]; omega)]
   simp
  | succ i =>
   rw [List.getElem?_append_right (by simp [Dat.cells]; omega)]
   have : (i + 1) * 4 + j - x.cells.length = i * 4 + j := by simp [Dat.cells]; omega
   rw [this]
   exact ih i d j (by simpa using h) hj
theorem DatsOn.cells {w : World} {a : Option Addr} {n c : Nat} {xs : List Dat} (h : RowAt w (.slice a n c) xs) : ∀ ad, a = some ad → ∀ j u, (rowCells xs)[j]? = some u → w.cell? (ad.add j) = some u := by
 rintro ad rfl j u hu
 obtain ⟨a', c', hv, -, h⟩ := h
 cases hv
 have hj := (List.getElem?_eq_some_iff.1 hu).1
 rw [rowCells_len] at hj
 have hk : j / 4 < xs.length := by omega
 obtain ⟨b, o, hb, -, hc⟩ := h (by intro e; rw [e] at hk; simp at hk)
 cases hb
 rw [add_lit]
 have hx : xs[j / 4]? = some xs[j / 4] := List.getElem?_eq_getElem hk
 obtain ⟨c0, c1, c2, c3⟩ := hc _ _ hx
 have hm := rowCells_at xs (j / 4) _ (j % 4) hx (by omega)
 rw [show j / 4 * 4 + j % 4 = j by omega, hu] at hm
 have hr : j % 4 = 0 ∨ j % 4 = 1 ∨ j % 4 = 2 ∨ j % 4 = 3 := by omega
 rcases hr with hr | hr | hr | hr <;> rw [hr] at hm <;> simp [Dat.cells] at hm <;> subst hm
 ·rw [show o + j = o + j / 4 * 4 by omega]; exact c0
 ·rw [show o + j = o + j / 4 * 4 + 1 by omega]; exact c1
 ·rw [show o + j = o + j / 4 * 4 + 2 by omega]; exact c2
 ·rw [show o + j = o + j / 4 * 4 + 3 by omega]; exact c3
theorem DatsOn.none {w : World} {a : Option Addr} {n c : Nat} {xs : List Dat} (h : RowAt w (.slice a n c) xs) : n = xs.length ∧ (a = none → n = 0 ∧ c = 0) := by
 obtain ⟨a', c', hv, hz, h⟩ := h
 cases hv
 refine ⟨rfl, fun ha => ⟨?_, hz ha⟩⟩
 cases xs with
 | nil => rfl
 | cons x xs => obtain ⟨b, o, hb, -⟩ := h (by simp); rw [ha] at hb; cases hb
def LentR (w : World) (lo g : Nat) (xs : List Dat) : Prop := w.ownsRow lo 25 4 (.slice (some ⟨g, 0, none⟩) (xs.length + 2) (xs.length + 2)) (xs.length + 2) (rowCells xs ++ rowTail)
theorem LentR.head {w : World} {lo g : Nat} {xs : List Dat} (h : LentR w lo g xs) : w.ownsRow lo 25 4 (.slice (some ⟨g, 0, none⟩) xs.length (xs.length + 2)) xs.length (rowCells xs) := ownsRow_head h (rowCells_len xs)
theorem LentR.at {w : World} {lo g : Nat} {xs : List Dat} (h : LentR w lo g xs) : RowAt w (.slice (some ⟨g, 0, none⟩) xs.length (xs.length + 2)) xs := rowAt_of_owns h.head
theorem LentR.tail {w : World} {lo g : Nat} {xs : List Dat} (h : LentR w lo g xs) (j : Nat) (x : Value) (hx : rowTail[j]? = some x) : w.cell? ⟨g, xs.length * 4 + j, none⟩ = some x := by
 have hc := (ownsRow_heap h).2.2.2
 have hl := rowCells_len xs
 refine hc _ _ ?_
 rw [List.getElem?_append_right (by omega), show xs.length * 4 + j - (rowCells xs).length = j by omega]; exact hx
def rowW (l : List Dat) : Nat := l.length + (l.map fun d => d.text.size / 64).sum
theorem sum_take : ∀ (l : List Dat) (i : Nat) (d : Dat), l[i]? = some d → ((l.take (i + 1)).map fun d => d.text.size / 64).sum = ((l.take i).map fun d => d.text.size / 64).sum + d.text.size / 64
 | [], i, d, h => by simp at h
 | x :: l, 0, d, h => by simp at h; subst h; simp
 | x :: l, i + 1, d, h => by
  have := sum_take l i d (by simpa using h)
  simp only [List.take_succ_cons, List.map_cons, List.sum_cons] at this ⊢
  omega
theorem sum_le : ∀ (l : List Dat) (i : Nat), ((l.take i).map fun d => d.text.size / 64).sum ≤ (l.map fun d => d.text.size / 64).sum
 | [], i => by simp
 | x :: l, 0 => by simp
 | x :: l, i + 1 => by
  have := sum_le l i
  simp only [List.take_succ_cons, List.map_cons, List.sum_cons] at this ⊢
  omega
theorem far_9 (v : Value) (l : List Dat) (w : World) (hv : RowAt w v l) (hn : l.length ≤ 17592186043904) (hf : ∀ d ∈ l, d.fits) :
  Calls Tryz.prog 11 #[v] w fun ev w' => ev = .returned (.bool (decide (12000 < rowW l))) ∧ w' = w := by
 obtain ⟨a, c, rfl, -, h1⟩ := hv
 obtain ⟨R, eR⟩ : ∃ R, R = decide (12000 < rowW l) := ⟨_, rfl⟩
 rw [← eR]
 obtain ⟨n, en⟩ : ∃ n, n = l.length := ⟨_, rfl⟩
 rw [← en] at hn ⊢
 have H1 := Lib.hid h1
 have EN := Lib.hid en
 have ER := Lib.hid eR
 have HF := Lib.hid hf
 clear h1 en eR hf
 go_enter Tryz.func11, Tryz.ntmps11
 go_wp2
 go_loopw [3, 4] (fun s i wr => ∃ (k m : Nat), k ≤ n ∧ i = .int .i64 k ∧ s = .int .i64 m ∧ m ≤ 19791209299968 ∧ m = n + ((l.take k).map fun d => d.text.size / 64).sum ∧ wr = w) (fun _ i _ => n - (intOf i).toNat)
 case atStart => exact ⟨0, n, Nat.zero_le _, rfl, rfl, by omega, by simp, rfl⟩
 case round =>
  obtain ⟨k, m, hk, rfl, rfl, hm, hsum, rfl⟩ := hrel
  have HS := Lib.hid hsum
  have hle := sum_le l k
  have HLE := Lib.hid hle
  clear hsum hle
  by_cases hlt : k < n
  ·by_cases hm2 : 12000 < m
   ·have hR : R = true := by
     rw [ER.out]
     have h1 := HS.out
     have h2 := HLE.out
     have h3 := EN.out
     apply decide_eq_true
     unfold rowW
     omega
    have q : ¬ ((m : Int) ≤ 12000) := by omega
    have q' : (12000 : Int) < (m : Int) := by omega
    have HR := Lib.hid hR
    clear hR
    go_wp2
    go_ret
    exact ⟨by rw [HR.out]; rfl, rfl⟩
   ·obtain ⟨x, hx⟩ : ∃ x, l[k]? = some x := ⟨l[k]'(by rw [← EN.out]; exact hlt), List.getElem?_eq_getElem _⟩
    obtain ⟨b1, o1, rfl, -, g1⟩ := H1.out (fun e => by rw [e] at hx; simp at hx)
    have e3 := (g1 k x hx).2.2.2
    have hxs := (HF.out x (List.mem_of_getElem? hx)).2.2
    have hst := sum_take l k x hx
    have HST := Lib.hid hst
    obtain ⟨t, et⟩ : ∃ t, t = x.text := ⟨_, rfl⟩
    rw [← et] at e3 hxs HST
    clear g1 hx et hst
    have q : (m : Int) ≤ 12000 := by omega
    go_wp2
    go_roundw
    case rel => exact ⟨k + 1, m + t.size / 64, hlt, by go_num, by go_num, by omega, (by rw [HST.out, HS.out]; omega), trivial⟩
    case measure => simp [intOf]; omega
  ·obtain rfl : k = n := by omega
   have hR : R = decide (12000 < m) := by
    rw [ER.out, HS.out, List.take_of_length_le (by rw [EN.out]; exact Nat.le_refl _), EN.out]
    rfl
   have HR := Lib.hid hR
   clear hR
   by_cases hm2 : 12000 < m
   ·have q' : (12000 : Int) < (m : Int) := by omega
    go_wp2
    go_ret
    exact ⟨by rw [HR.out, decide_eq_true hm2]; rfl, rfl⟩
   ·have q' : ¬ ((12000 : Int) < (m : Int)) := by omega
    go_wp2
    go_ret
    exact ⟨by rw [HR.out, decide_eq_false hm2]; rfl, rfl⟩
end Go.Proofs.YtmmhedlagnjbiaaGreatDoor
namespace Go.Proofs.YtmmhedlagnjbiaaGreatDoor
open Go.RowKit Go.Pen
section
variable {H : Type} {enc : TypeId × Value → H} {w : World} {base : Nat} {spare : Nat → Bool} {held : Bool}
theorem open_row {fuel : Nat} {v : Value} {x : DataW H × List MemPlace} (h : DataW.trod enc Tryz.prog w base spare held fuel 39 [v] = some x) (hw : ∀ n ∈ x.1.weights Tryz.prog 39, n ≤ reachBytes) :
  ∃ (r : List Dat) (a : Option Addr) (c : Nat), v = .slice a r.length c ∧ RowAt w (.slice a r.length c) r ∧ r.length ≤ 17592186043904 ∧ ∀ d ∈ r, d.fits := by
 rcases DataW.trod_slice Tryz.underlying39 h with ⟨h0, -⟩ | ⟨a, len, cap, elems, rest, n, hn, h1, hx1, hb, hl, hm, hlen1, hel, -, -⟩
 ·simp only [List.cons.injEq, and_true] at h0
  subst h0
  exact ⟨[], none, 0, rfl, ⟨none, 0, rfl, fun _ => rfl, fun h => absurd rfl h⟩, by simp, by simp⟩
 ·simp only [List.cons.injEq, and_true] at h1
  subst h1
  rw [hx1] at hw
  have hw0 := hw
  obtain ⟨hwl, hwe⟩ := slice_weights Tryz.underlying39 hw (show 1 ≤ Tryz.prog.bytesOf 25 from by rw [show Tryz.prog.bytesOf 25 = 32 by kernel_rfl]; decide)
  have hwl2 : len ≤ 17592186043904 := by
   have h1 := hw0 _ (by
    show (elems.length + rest.length) * Tryz.prog.bytesOf 25 ∈ _
    simp [DataW.weights, Tryz.underlying39])
   rw [show Tryz.prog.bytesOf 25 = 32 by kernel_rfl] at h1
   unfold reachBytes at h1
   omega
  have ce : Tryz.prog.cellsOf 25 = 4 := by kernel_rfl
  have each : ∀ i, i < len → ∃ d : Dat, (w.cell? (a.add (i * 4)) = some (.int .u8 d.kind) ∧ w.cell? ((a.add (i * 4)).add 1) = some (.bool d.bool) ∧ w.cell? ((a.add (i * 4)).add 2) = some (.int .i64 d.int) ∧ w.cell? ((a.add (i * 4)).add 3) = some (.string d.text)) ∧ d.fits := by
   intro i hi
   have h2 := hel i hi
   rw [ce, List.getElem?_eq_getElem (by omega : i < elems.length), Option.bind_eq_some_iff] at h2
   obtain ⟨cs', hcs, hy'⟩ := h2
   obtain ⟨_, hlen', hcell⟩ := World.cells?_some hcs
   obtain ⟨d, hd, hft⟩ := open_dat hlen' hy' (hwe _ (List.mem_map.2 ⟨_, List.getElem_mem _, rfl⟩))
   subst hd
   have c0 := hcell 0 (by decide)
   have c1 := hcell 1 (by decide)
   have c2 := hcell 2 (by decide)
   have c3 := hcell 3 (by decide)
   rw [add_zero'] at c0
   exact ⟨d, ⟨c0, c1, c2, c3⟩, hft⟩
  have : Inhabited Dat := ⟨Dat.zero⟩
  obtain ⟨q, hq⟩ := Go.Deep.choose_lt each
  refine ⟨(List.range len).map q, some a, cap, by simp, ⟨some a, cap, rfl, (fun h => by cases h), fun hne => ?_⟩, by simpa using hwl2, fun d hd => ?_⟩
  ·have h0 := range_ne hne
   have hz := (hq 0 h0).1.1
   rw [Nat.zero_mul, add_zero'] at hz
   obtain ⟨bl, off, rfl⟩ := addr_plain hz
   refine ⟨bl, off, rfl, trivial, fun i d hd => ?_⟩
   obtain ⟨hi, rfl⟩ := range_at hd
   obtain ⟨⟨c0, c1, c2, c3⟩, -⟩ := hq i hi
   rw [add_lit] at c0 c1 c2 c3
   rw [add_lit] at c1 c2 c3
   exact ⟨c0, c1, c2, c3⟩
  ·obtain ⟨i, hi, rfl⟩ := List.mem_map.1 hd
   exact (hq i (List.mem_range.1 hi)).2
end
end Go.Proofs.YtmmhedlagnjbiaaGreatDoor
namespace Go.Proofs.YtmmhedlagnjbiaaGreatDoor
open Go.RowKit Go.Pen Go.Shelf
attribute [local go_sem] Oper.semAt_some
def rowOk (r : List Dat) : Bool := decide (r.length ≤ 32) && r.all okD
theorem check_13 (r : List Dat) (v : Value) (w : World) (hr : RowAt w v r) (hrf : ∀ d ∈ r, d.fits) :
  Calls Tryz.prog 13 #[v] w fun e w' => ∃ c : Nat, e = .returned (.int .i64 c) ∧ (c = 0 ↔ rowOk r = true) ∧ Below w.heap.size w w' := by
 obtain ⟨a, cc, rfl, -, hri⟩ := hr
 obtain ⟨K, eK⟩ : ∃ K, K = r.length := ⟨_, rfl⟩
 rw [← eK]
 have EK := Lib.hid eK
 have HRI := Lib.hid hri
 have HRF := Lib.hid hrf
 clear hri eK hrf
 go_enter Tryz.func13, Tryz.ntmps13
 by_cases h32 : 32 < K
 ·go_wp2_with fail
  go_ret
  refine ⟨20, rfl, ?_, Below.refl _ _⟩
  have := EK.out
  simp only [rowOk, Bool.and_eq_true, decide_eq_true_eq]
  constructor
  ·intro h; cases h
  ·intro h; omega
 go_wp2_with fail
 go_loopg [3] K (fun g s3 wr => ∃ i : Nat, i ≤ K ∧ g = K - i ∧ s3 = .int .i64 i ∧ (r.take i).all okD = true ∧ Below w.heap.size w wr)
 case atStart => exact ⟨0, Nat.zero_le _, rfl, rfl, rfl, Below.refl _ _⟩
 case round =>
  obtain ⟨i, hi, hgi, rfl, hall, hbr⟩ := hrel
  have HALL := Lib.hid hall
  have HBR := Lib.hid hbr
  clear hall
  by_cases hlt : i < K
  ·obtain ⟨d, hx⟩ : ∃ d, r[i]? = some d := ⟨r[i]'(by rw [← EK.out]; exact hlt), List.getElem?_eq_getElem _⟩
   obtain ⟨b, off, rfl, -, hrs⟩ := HRI.out (fun e => by rw [e] at hx; simp at hx)
   obtain ⟨q0, q1, q2, q3⟩ := hrs _ _ hx
   have q0 := cell_keep hbr q0
   have q1 := cell_keep hbr q1
   have q2 := cell_keep hbr q2
   have q3 := cell_keep hbr q3
   have hck := check_105 d wr (HRF.out d (List.mem_of_getElem? hx))
   unfold Dat.agg at hck
   have HCK := Lib.hid hck
   have HX := Lib.hid hx
   clear hrs hx hck hbr
   obtain ⟨C, eC⟩ : ∃ C, C = chkD d := ⟨_, rfl⟩
   rw [← eC] at HCK
   have EC := Lib.hid eC
   clear eC
   by_cases hC : C = 0
   ·subst hC
    go_wp2_with (go_at_call 26; refine HCK.out.mono ?_; rintro e w5 ⟨rfl, hb5⟩)
    go_roundg (K - (i + 1))
    case measure => omega
    case rel => exact ⟨i + 1, by omega, rfl, by go_num, by rw [List.take_add_one, HX.out]; simp only [List.all_append, HALL.out]; simp [okD, ← EC.out], HBR.out.trans (hb5.mono HBR.out.size)⟩
   ·have hC2 : ((C : Int) == 0) = false := by simp; omega
    go_wp2_with (go_at_call 26; refine HCK.out.mono ?_; rintro e w5 ⟨rfl, hb5⟩)
    go_ret
    refine ⟨C, rfl, ?_, HBR.out.trans (hb5.mono HBR.out.size)⟩
    constructor
    ·intro h; exact absurd h hC
    ·intro h
     simp only [rowOk, Bool.and_eq_true, List.all_eq_true] at h
     have := h.2 d (List.mem_of_getElem? HX.out)
     simp only [okD, beq_iff_eq] at this
     exact absurd (EC.out.trans this) hC
  ·go_wp2_with fail
   go_ret
   refine ⟨0, rfl, ?_, HBR.out⟩
   have h1 := HALL.out
   rw [show i = r.length by have := EK.out; omega, List.take_length] at h1
   have := EK.out
   simp [rowOk, h1]
   omega
end Go.Proofs.YtmmhedlagnjbiaaGreatDoor
