/- A line of a report. -/
import Derived.Test.YtgmilhhifigkkaaDoorRpc
namespace Go.Lott.Rp
theorem vals_snoc (L : List (List UInt8)) (x : List UInt8) : vals (L ++ [x]) = vals L ++ 32 :: x := by simp [vals]
theorem vals_take {L : List (List UInt8)} {k : Nat} (h : k < L.length) : vals (L.take (k + 1)) = vals (L.take k) ++ 32 :: L[k] := by
  rw [List.take_succ_eq_append_getElem h, vals_snoc]
theorem vals_le (L : List (List UInt8)) (k : Nat) : (vals (L.take k)).length ≤ (vals L).length := by
  have e : vals L = vals (L.take k) ++ vals (L.drop k) := by unfold vals; rw [← List.flatMap_append, List.take_append_drop]
  rw [e, List.length_append]; omega
theorem ln_len (w : List UInt8) (L : List (List UInt8)) : (ln w L).length = w.length + (vals L).length + 1 := by unfold ln; simp; omega
end Go.Lott.Rp
namespace Go.Proofs.YtgmilhhifigkkaaDoor
open Go.ChangeShapes Go.WideShapes Go.ChangeAt Go.RowKit Go.Lott
open Go.Lott.Mny Go.Lott.Rp
/-- The bytes of texts. -/
def bts (vs : List ByteArray) : List (List UInt8) := vs.map fun v => v.data.toList
/-- A slice of texts. -/
def SRow (w : World) (a : Option Addr) (vs : List ByteArray) : Prop := (a = none ∧ vs = []) ∨ ∃ g cs, a = some ⟨g, 0, none⟩ ∧ w.heap[g]? = some (.cells cs 9 (0, 0)) ∧ ∀ (i : Nat) (v : ByteArray), vs[i]? = some v → cs[i]? = some (.string v)
theorem SRow.keeps {w w1 : World} {a : Option Addr} {vs : List ByteArray} (h : SRow w a vs) (k : Keeps w w1) : SRow w1 a vs := by
  rcases h with h | ⟨g, cs, ha, hg, hc⟩
  · exact .inl h
  · exact .inr ⟨g, cs, ha, k g cs _ _ hg (by decide) (by decide), hc⟩
theorem SRow.below {w w1 : World} {a : Option Addr} {vs : List ByteArray} (h : SRow w a vs) (k : Below w.heap.size w w1) : SRow w1 a vs := h.keeps ((Keeps.refl w).below k)
theorem wb32 (B b : Nat) (l : List UInt8) (w : World) (h : Pg B b l w) (hlen : l.length + 1 ≤ 140737488355328) (hBw : B ≤ w.heap.size) :
    Calls Tryd.prog 38 #[.pointer (some ⟨b, 0, none⟩), .int .u8 32] w fun e w' => e = .returned .nilIface ∧ Pg B b (l ++ [32]) w' ∧ Below B w w' ∧ Keeps w w' := wb_any B b l 32 w h hlen hBw
theorem wb10 (B b : Nat) (l : List UInt8) (w : World) (h : Pg B b l w) (hlen : l.length + 1 ≤ 140737488355328) (hBw : B ≤ w.heap.size) :
    Calls Tryd.prog 38 #[.pointer (some ⟨b, 0, none⟩), .int .u8 10] w fun e w' => e = .returned .nilIface ∧ Pg B b (l ++ [10]) w' ∧ Below B w w' ∧ Keeps w w' := wb_any B b l 10 w h hlen hBw
/-- What stands behind a line: the page holds l; below B nothing turned; other blocks stand. -/
def PgTo (B b : Nat) (l : List UInt8) (w w' : World) : Prop := Pg B b l w' ∧ Below B w w' ∧ Keeps w w'
set_option maxHeartbeats 2000000 in
theorem line_any (B b : Nat) (l : List UInt8) (s : ByteArray) (a : Option Addr) (n cap : Nat) (vs : List ByteArray) (w : World) (h : Pg B b l w) (hB : B ≤ w.heap.size) (hr : SRow w a vs) (hn : vs.length = n)
    (hlen : l.length + (ln s.data.toList (bts vs)).length ≤ 140737488355328) :
    Calls Tryd.prog 25 #[.pointer (some ⟨b, 0, none⟩), .string s, .slice a n cap] w fun e w' => e = .returned (.tuple #[]) ∧ PgTo B b (l ++ ln s.data.toList (bts vs)) w w' := by
  subst hn
  rw [ln_len] at hlen
  have hss : s.data.toList.length = s.size := by simp
  rw [hss] at hlen
  have HW := Lib.hid (ws_any B b l s w h (by omega) hB)
  have HR := Lib.hid hr
  have HSS := Lib.hid hss
  clear h hr hss
  have hvl : vs.length ≤ 140737488355328 := by
    have key : ∀ L : List (List UInt8), L.length ≤ (vals L).length := fun L => by
      induction L with
      | nil => simp
      | cons x L ih => have e : vals (x :: L) = 32 :: x ++ vals L := by { unfold vals; rw [List.flatMap_cons] }
                       rw [e]; simp; omega
    have := key (bts vs)
    have e : (bts vs).length = vs.length := by simp [bts]
    omega
  go_enter Tryd.func25, Tryd.ntmps25
  go_wp2_with (go_at_call 37; refine HW.out.mono ?_; rintro e w1 ⟨rfl, hp1, hb1, hk1⟩; have HP1 := Lib.hid hp1; have HB1 := Lib.hid hb1; have HK1 := Lib.hid hk1; clear hp1 hb1 hk1)
  go_loopw [15] (fun vi wr => ∃ k : Nat, vi = .int .i64 k ∧ k ≤ vs.length ∧ Pg B b (l ++ s.data.toList ++ vals ((bts vs).take k)) wr ∧ Below B w wr ∧ Keeps w wr) (fun vi _ => vs.length - (intOf vi).toNat)
  case atStart => exact ⟨0, rfl, by omega, by simpa [vals] using HP1.out, HB1.out, HK1.out⟩
  case round =>
    obtain ⟨k, rfl, hk, hp, hb, hkk⟩ := hrel
    have hBr : B ≤ wr.heap.size := by have := hb.size; omega
    have HP := Lib.hid hp
    have HB := Lib.hid hb
    have HK := Lib.hid hkk
    clear hp hb hkk
    have hv := vals_le (bts vs) k
    have hll : (l ++ s.data.toList ++ vals ((bts vs).take k)).length = l.length + s.size + (vals ((bts vs).take k)).length := by rw [List.length_append, List.length_append, HSS.out]
    by_cases hlt : k < vs.length
    · have hlt' : k < (bts vs).length := by simpa [bts] using hlt
      have hvk : (bts vs)[k] = vs[k].data.toList := by simp [bts]
      have ht := vals_take hlt'
      rw [hvk] at ht
      have hv2 := vals_le (bts vs) (k + 1)
      rw [ht] at hv2
      have hsz : vs[k].data.toList.length = vs[k].size := by simp
      rw [List.length_append, List.length_cons, hsz] at hv2
      rcases HR.out.keeps HK.out with ⟨_, h0⟩ | ⟨g, cs, ha, hg, hc⟩
      · exfalso; rw [h0] at hlt; simp at hlt
      · subst ha
        have c0 : wr.cell? ⟨g, k, none⟩ = some (.string vs[k]) := by rw [Lib.cell_of_heap hg]; exact hc k _ (by simp [hlt])
        have H32 := Lib.hid (wb32 B b _ wr HP.out (by rw [hll]; omega) hBr)
        have HT := Lib.hid ht
        have HLL := Lib.hid hll
        have HSZ := Lib.hid hsz
        clear ht hll hsz hc hg hvk hlt'
        go_wp2_with (first
          | (go_at_call 38; refine H32.out.mono ?_; rintro e w2 ⟨rfl, hp2, hb2, hk2⟩; have HP2 := Lib.hid hp2; have HB2 := Lib.hid (HB.out.trans hb2); have HK2 := Lib.hid (HK.out.trans hk2); have hBr2 : B ≤ w2.heap.size := by { have := HB2.out.size; omega }; clear hp2 hb2 hk2)
          | (go_at_call 37; refine (ws_any B b _ vs[k] _ HP2.out (by rw [List.length_append, HLL.out]; simp; omega) hBr2).mono ?_; rintro e w3 ⟨rfl, hp3, hb3, hk3⟩; have HP3 := Lib.hid hp3; have HB3 := Lib.hid (HB2.out.trans hb3); have HK3 := Lib.hid (HK2.out.trans hk3); clear hp3 hb3 hk3))
        go_roundw
        case rel => exact ⟨k + 1, by go_num, hlt, by rw [HT.out]; simpa using HP3.out, HB3.out, HK3.out⟩
        case measure => simp [intOf]; omega
    · obtain rfl : k = vs.length := by omega
      have htk : (bts vs).take vs.length = bts vs := List.take_of_length_le (by simp [bts])
      have H10 := Lib.hid (wb10 B b _ wr HP.out (by rw [hll]; omega) hBr)
      have HTK := Lib.hid htk
      clear hll htk
      go_wp2_with (go_at_call 38; refine H10.out.mono ?_; rintro e w2 ⟨rfl, hp2, hb2, hk2⟩; have HP2 := Lib.hid hp2; have HB2 := Lib.hid (HB.out.trans hb2); have HK2 := Lib.hid (HK.out.trans hk2); clear hp2 hb2 hk2)
      go_end0
      refine ⟨rfl, ?_, HB2.out, HK2.out⟩
      have := HP2.out
      rw [HTK.out] at this
      unfold ln
      simpa using this
end Go.Proofs.YtgmilhhifigkkaaDoor
