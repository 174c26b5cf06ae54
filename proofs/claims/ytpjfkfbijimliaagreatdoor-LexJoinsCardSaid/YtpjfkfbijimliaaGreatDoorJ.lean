import Derived.Test.YtpjfkfbijimliaaGreatDoorI
import Derived.Laws.BytesArg
namespace Go.Proofs.YtpjfkfbijimliaaGreatDoor
open Go.RowKit Go.Pen

theorem info5 : (Tryz.prog.info? 5).map (fun i => (i.zero, i.size, i.bytes)) = some (some (.int .u8 0), 1, 1) := by kernel_rfl

theorem info_parts {P : Program} {e s b : Nat} {z : Value} (h : (P.info? e).map (fun i => (i.zero, i.size, i.bytes)) = some (some z, s, b)) : ∃ i, P.info? e = some i ∧ i.zero = some z ∧ i.size = s ∧ i.bytes = b := by
  cases hi : P.info? e with
  | none => rw [hi] at h; simp at h
  | some i =>
    rw [hi] at h
    simp at h
    exact ⟨i, rfl, h.1, h.2.1, h.2.2⟩

/-- out's state: the bytes so far -/
def OutIs (H : Nat) (w : World) (v : Value) (l : Bytes) (wr : World) : Prop := wr.ownsRow H 5 1 v l.length (l.map bv) ∧ Below H w wr

theorem out_step {H m : Nat} {w wr w1 : World} {v v' : Value} {l : Bytes} {c : UInt8} {x : Int} {o : Obj} (hb : Below H w wr) (hHs : H ≤ wr.heap.size) (ho : wr.ownsRow H 5 1 v m (l.map bv)) (ho' : w1.ownsRow H 5 1 v' (m + 1) (l.map bv ++ [.int .u8 x])) (hg : (wr.alloc o).grownBy w1 v.ownBlock) (hx : x = ((low c).toNat : Int)) : OutIs H w v' (l ++ [low c]) w1 := by
  have hl := ho.1
  rw [List.length_map] at hl
  subst hx
  refine ⟨?_, (hb.alloc hHs o).grown hg (by show _ ≤ (World.alloc _ _).heap.size; simp; omega) (fun g hg => (ho.lt g hg).1)⟩
  rw [List.length_append, List.map_append, show l.length = m by omega]
  exact ho'

theorem small_take {t : ByteArray} {m : Nat} {c : UInt8} (hc : t.data.toList[m]? = some c) : (t.data.toList.map low).take (m + 1) = (t.data.toList.map low).take m ++ [low c] := by
  rw [List.take_add_one, List.getElem?_map, hc]; rfl

theorem out_text {H n c : Nat} {w : World} {a : Option Addr} {l : Bytes} (ho : w.ownsRow H 5 1 (.slice a n c) n (l.map bv)) (hn : l.length = n) : (convert 56 9 (.slice a n c)).run Tryz.prog w = .ok (.string ⟨l.toArray⟩) w := by
  subst hn
  rcases ho.2 with ⟨h, h0⟩ | ⟨b, c', cur, h, hb, hg, hnc, hcm, hcs, ht⟩
  · have : l = [] := List.eq_nil_of_length_eq_zero h0
    subst this
    cases h
    exact run_convert_bytes_nil (P := Tryz.prog) w 56 5 Tryz.underlying56 Tryz.underlying5 _ _ 9 Tryz.underlying9
  · cases h
    refine run_convert_bytes_back (P := Tryz.prog) w 56 9 5 ⟨b, 0, none⟩ _ l Tryz.underlying56 Tryz.underlying5 Tryz.underlying9 (fun j hj => ?_)
    rw [add_lit, Nat.zero_add]
    have := ownsRow_cell ho rfl (j := j) (u := bv l[j]) (by rw [List.getElem?_map, List.getElem?_eq_getElem hj]; rfl)
    simpa [bv] using this

end Go.Proofs.YtpjfkfbijimliaaGreatDoor
