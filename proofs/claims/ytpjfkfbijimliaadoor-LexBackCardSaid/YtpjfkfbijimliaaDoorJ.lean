import Derived.Test.YtpjfkfbijimliaaDoorI
import Derived.Laws.BytesArg
namespace Go.Proofs.YtpjfkfbijimliaaDoor
open Go.RowKit Go.Pen

theorem info5 : (Tryd.prog.info? 5).map (fun i => (i.zero, i.size, i.bytes)) = some (some (.int .u8 0), 1, 1) := by kernel_rfl

theorem info_parts {P : Program} {e s b : Nat} {z : Value} (h : (P.info? e).map (fun i => (i.zero, i.size, i.bytes)) = some (some z, s, b)) : ∃ i, P.info? e = some i ∧ i.zero = some z ∧ i.size = s ∧ i.bytes = b := by
  cases hi : P.info? e with
  | none => rw [hi] at h; simp at h
  | some i =>
    rw [hi] at h
    simp at h
    exact ⟨i, rfl, h.1, h.2.1, h.2.2⟩

/-- out's state: the bytes so far -/
def OutIs (H : Nat) (w : World) (v : Value) (l : Bytes) (wr : World) : Prop := wr.ownsRow H 5 1 v l.length (l.map bv) ∧ Below H w wr

theorem out_step {H m : Nat} {w wr w1 : World} {v v' : Value} {l : Bytes} {c : UInt8} {x : Int} {o : Obj} (hb : Below H w wr) (hHs : H ≤ wr.heap.size) (ho : wr.ownsRow H 5 1 v m (l.map bv)) (ho' : w1.ownsRow H 5 1 v' (m + 1) (l.map bv ++ [.int .u8 x])) (hg : (wr.alloc o).grownBy w1 v.ownBlock) (hx : x = ((low c).toNat : Int)) : OutIs H w v' (l ++ [low c]) w1 := by
  have hl := ho.1
  rw [List.length_map] at hl
  subst hx
  refine ⟨?_, (hb.alloc hHs o).grown hg (by show _ ≤ (World.alloc _ _).heap.size; simp; omega) (fun g hg => (ho.lt g hg).1)⟩
  rw [List.length_append, List.map_append, show l.length = m by omega]
  exact ho'

theorem small_take {t : ByteArray} {m : Nat} {c : UInt8} (hc : t.data.toList[m]? = some c) : (t.data.toList.map low).take (m + 1) = (t.data.toList.map low).take m ++ [low c] := by
  rw [List.take_add_one, List.getElem?_map, hc]; rfl

theorem out_text {H n c : Nat} {w : World} {a : Option Addr} {l : Bytes} (ho : w.ownsRow H 5 1 (.slice a n c) n (l.map bv)) (hn : l.length = n) : (convert 39 9 (.slice a n c)).run Tryd.prog w = .ok (.string ⟨l.toArray⟩) w := by
  subst hn
  rcases ho.2 with ⟨h, h0⟩ | ⟨b, c', cur, h, hb, hg, hnc, hcm, hcs, ht⟩
  · have : l = [] := List.eq_nil_of_length_eq_zero h0
    subst this
    cases h
    exact run_convert_bytes_nil (P := Tryd.prog) w 39 5 Tryd.underlying39 Tryd.underlying5 _ _ 9 Tryd.underlying9
  · cases h
    refine run_convert_bytes_back (P := Tryd.prog) w 39 9 5 ⟨b, 0, none⟩ _ l Tryd.underlying39 Tryd.underlying5 Tryd.underlying9 (fun j hj => ?_)
    rw [add_lit, Nat.zero_add]
    have := ownsRow_cell ho rfl (j := j) (u := bv l[j]) (by rw [List.getElem?_map, List.getElem?_eq_getElem hj]; rfl)
    simpa [bv] using this

set_option maxRecDepth 100000 in
set_option maxHeartbeats 4000000 in
theorem small_47 (t : ByteArray) (w : World) (hs : t.size ≤ 16384) :
    Calls Tryd.prog 47 #[.string t] w fun e w' => e = .returned (.string ⟨(t.data.toList.map low).toArray⟩) ∧ Below w.heap.size w w' := by
  obtain ⟨i0, hi, hz0, hz1, hz2⟩ := info_parts info5
  obtain ⟨H, hHe⟩ : ∃ H, w.heap.size = H := ⟨_, rfl⟩
  go_enter Tryd.func47, Tryd.ntmps47
  go_wp2_with fail
  go_loopw [3, 4] (fun v i wr => ∃ m : Nat, m ≤ t.size ∧ i = .int .i64 m ∧ OutIs H w v ((t.data.toList.map low).take m) wr) (fun _ i _ => t.size - (intOf i).toNat)
  case atStart => exact ⟨0, Nat.zero_le _, rfl, World.ownsRow_nil _ _ _ _, Below.refl _ _⟩
  case round =>
    obtain ⟨m, hm, rfl, hr⟩ := hrel
    obtain ⟨ho, hb⟩ := hr
    have hlen : ((t.data.toList.map low).take m).length = m := by rw [List.length_take, List.length_map, len_list]; omega
    rw [hlen] at ho
    obtain ⟨l, hlq⟩ : ∃ l, (t.data.toList.map low).take m = l := ⟨_, rfl⟩
    rw [hlq] at ho hlen
    have hHs : H ≤ wr.heap.size := hHe ▸ hb.size
    rcases Nat.lt_or_ge m t.size with hlt | hge
    · have hd : decide ((m : Int) < (t.size : Int)) = true := by simpa using hlt
      obtain ⟨c, cs, hcs, -⟩ := drop_cons hlt
      have hget := get_of_drop hcs hlt
      have hc : t.data.toList[m]? = some c := by
        have := congrArg List.head? hcs
        simpa [List.head?_drop] using this
      have HQ := Lib.hid hlq
      clear hcs hlq
      by_cases hlo : 65 ≤ c.toNat
      · by_cases hhi : c.toNat ≤ 90
        · have hl : ((c.toNat : Int) + 32) = ((low c).toNat : Int) := by
            have h1 : low c = c + 32 := by simp [low, hlo, hhi]
            rw [h1, UInt8.toNat_add]
            have : (32 : UInt8).toNat = 32 := rfl
            omega
          have hd1 : decide (65 ≤ (c.toNat : Int)) = true := by simp; omega
          have hd2 : decide ((c.toNat : Int) ≤ 90) = true := by simp; omega
          go_wp2_with (at_builtin; go_must (refine wpList_append_own _ rfl _ _ 39 rfl H 5 i0 (.int .u8 0) 1 1 Tryd.underlying39 hi hz0 hz1 hz2 rfl (by decide) u3 m _ rfl (ho.alloc _) ⟨wr.heap.size, 0, none⟩ 1 1 [.int .u8 (low c).toNat] rfl rfl ?c1 ?c2 ?c3 ?c4 ?c5 ?_))
          case c1 =>
            intro j u hj
            match j, hj with
            | 0, hj => simp at hj; subst hj; simp [Addr.add]
          case c2 => intro u hu; simp at hu; subst hu; rfl
          case c3 => unfold maxLen; omega
          case c4 => omega
          case c5 => simp; omega
          intro v' w1 hown' hgrow _
          have HS := Lib.hid (out_step hb hHs ho hown' hgrow rfl)
          clear hown' hgrow
          go_wp2_with fail
          exact ⟨⟨m + 1, hlt, by simp, by rw [small_take hc, HQ.out]; exact HS.out⟩, by simp [intOf]; omega⟩
        · have hl : low c = c := by simp [low, hhi]
          have hd1 : decide (65 ≤ (c.toNat : Int)) = true := by simp; omega
          have hd2 : decide ((c.toNat : Int) ≤ 90) = false := by simp; omega
          go_wp2_with (at_builtin; go_must (refine wpList_append_own _ rfl _ _ 39 rfl H 5 i0 (.int .u8 0) 1 1 Tryd.underlying39 hi hz0 hz1 hz2 rfl (by decide) u3 m _ rfl (ho.alloc _) ⟨wr.heap.size, 0, none⟩ 1 1 [.int .u8 c.toNat] rfl rfl ?c1 ?c2 ?c3 ?c4 ?c5 ?_))
          case c1 =>
            intro j u hj
            match j, hj with
            | 0, hj => simp at hj; subst hj; simp [Addr.add]
          case c2 => intro u hu; simp at hu; subst hu; rfl
          case c3 => unfold maxLen; omega
          case c4 => omega
          case c5 => simp; omega
          intro v' w1 hown' hgrow _
          have HS := Lib.hid (out_step hb hHs ho hown' hgrow (by rw [hl]))
          clear hown' hgrow
          go_wp2_with fail
          exact ⟨⟨m + 1, hlt, by simp, by rw [small_take hc, HQ.out]; exact HS.out⟩, by simp [intOf]; omega⟩
      · have hl : low c = c := by simp [low, hlo]
        have hd1 : decide (65 ≤ (c.toNat : Int)) = false := by simp; omega
        go_wp2_with (at_builtin; go_must (refine wpList_append_own _ rfl _ _ 39 rfl H 5 i0 (.int .u8 0) 1 1 Tryd.underlying39 hi hz0 hz1 hz2 rfl (by decide) u3 m _ rfl (ho.alloc _) ⟨wr.heap.size, 0, none⟩ 1 1 [.int .u8 c.toNat] rfl rfl ?c1 ?c2 ?c3 ?c4 ?c5 ?_))
        case c1 =>
          intro j u hj
          match j, hj with
          | 0, hj => simp at hj; subst hj; simp [Addr.add]
        case c2 => intro u hu; simp at hu; subst hu; rfl
        case c3 => unfold maxLen; omega
        case c4 => omega
        case c5 => simp; omega
        intro v' w1 hown' hgrow _
        have HS := Lib.hid (out_step hb hHs ho hown' hgrow (by rw [hl]))
        clear hown' hgrow
        go_wp2_with fail
        exact ⟨⟨m + 1, hlt, by simp, by rw [small_take hc, HQ.out]; exact HS.out⟩, by simp [intOf]; omega⟩
    · have hd : decide ((m : Int) < (t.size : Int)) = false := by simp; omega
      obtain rfl : m = t.size := by omega
      have hta : (t.data.toList.map low).take t.size = t.data.toList.map low := List.take_of_length_le (by rw [List.length_map, len_list]; exact Nat.le_refl _)
      rw [hta] at hlq
      subst hlq
      obtain ⟨va, vc, rfl⟩ := ownsRow_slice ho
      have hback := out_text ho hlen
      go_wp2_with fail
      go_ret
      exact ⟨rfl, by rw [hHe]; exact hb⟩
end Go.Proofs.YtpjfkfbijimliaaDoor
