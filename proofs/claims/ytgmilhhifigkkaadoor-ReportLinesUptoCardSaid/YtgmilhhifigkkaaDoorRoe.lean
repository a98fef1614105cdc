/- A list's numbers as texts. -/
import Derived.Test.YtgmilhhifigkkaaDoorRoc
import Derived.OwnWalk
namespace Go.Proofs.YtgmilhhifigkkaaDoor
open Go.ChangeShapes Go.WideShapes Go.ChangeAt Go.RowKit Go.Lott
open Go.Lott.Mny Go.Lott.Rp
/-- The texts of the first k numbers. -/
def tx (f : Int → ByteArray) (z : Nat → Int) (k : Nat) : List ByteArray := (List.range k).map fun i => f (z i)
theorem tx_succ (f : Int → ByteArray) (z : Nat → Int) (k : Nat) : tx f z (k + 1) = tx f z k ++ [f (z k)] := by simp [tx, List.range_succ]
theorem tx_len (f : Int → ByteArray) (z : Nat → Int) (k : Nat) : (tx f z k).length = k := by simp [tx]
theorem srow_of_owns {w : World} {base : Nat} {v : Value} {n : Nat} {vs : List ByteArray} (h : w.ownsRow base 9 1 v n (vs.map Value.string)) (hn : vs.length = n) : ∃ a cap, v = .slice a n cap ∧ SRow w a vs := by
  rcases h.2 with ⟨hv, h0⟩ | ⟨g, cap, cur, hv, hg, hh, hc1, hc2, hc3, hc4⟩
  · subst h0
    exact ⟨none, 0, hv, .inl ⟨rfl, List.eq_nil_of_length_eq_zero hn⟩⟩
  · refine ⟨_, cap, hv, .inr ⟨g, cur, rfl, hh, fun i u hu => ?_⟩⟩
    have hi : i < vs.length := (List.getElem?_eq_some_iff.1 hu).1
    have key : cur[i]? = (vs.map Value.string)[i]? := by
      rw [← hc4, List.getElem?_take, if_pos (by omega), Array.getElem?_toList]
    rw [key, List.getElem?_map, hu]; rfl
theorem owns_below8 {w w1 : World} {base : Nat} {e : TypeId} {size : Nat} {v : Value} {n : Nat} {xs : List Value} (h : w.ownsRow base e size v n xs) (hb : Below w.heap.size w w1) : w1.ownsRow base e size v n xs := by
  refine ⟨h.1, ?_⟩
  rcases h.2 with h2 | ⟨g, cap, cur, hv, hg, hh, hr⟩
  · exact .inl h2
  · exact .inr ⟨g, cap, cur, hv, hg, by rw [hb.block g (lt_of_block hh)]; exact hh, hr⟩
theorem rpStr : (Tryd.prog.info? 9).map (fun i => (i.zero, i.size, i.bytes)) = some (some (.string ⟨#[]⟩), 1, 16) := by kernel_rfl
set_option maxHeartbeats 4000000 in
set_option maxRecDepth 100000 in
theorem eachF_any (a : Option Addr) (n cap : Nat) (z : Nat → Int) (w : World) (hn : n ≤ 50) (hr : NRow w a n z) (hp : P10 w) :
    Calls Tryd.prog 35 #[.slice a n cap, .func (.func 26) #[] #[]] w fun e w' => ∃ a' cap', e = .returned (.slice a' n cap') ∧ SRow w' a' (tx itB z n) ∧ Below w.heap.size w w' := by
  have HR := Lib.hid hr.1
  have HZ := Lib.hid hr.2
  have HP := Lib.hid hp
  clear hr hp
  obtain ⟨i0, hi, hz0, hz1, hz2⟩ := info_parts rpStr
  have hb8 : i0.bytes * n ≤ 281474976710656 := by rw [hz2]; omega
  have hml : n ≤ maxLen := by unfold maxLen; omega
  go_enter Tryd.func35, Tryd.ntmps35
  have tok1 : True := trivial
  go_wp2_with (have _t := tok1; refine wpList_make_own _ rfl _ _ 69 rfl w.heap.size 9 i0 (.string ⟨#[]⟩) 1 Tryd.underlying69 hi hz0 hz1 .i64 .i64 (n : Int) n (by rfl) (by rfl) rfl hb8 hml (Nat.le_refl _) ?_; intro wA oA gA; clear tok1)
  have HO := Lib.hid oA
  have HB := Lib.hid ((Below.refl w.heap.size w).grown gA (Nat.le_refl _) (fun k hk => by cases hk))
  clear oA gA
  go_loopw [5, 13] (fun vs vi wr => ∃ (k : Nat) (x : Value), x = vs ∧ vi = .int .i64 k ∧ k ≤ n ∧ wr.ownsRow w.heap.size 9 1 x k ((tx itB z k).map Value.string) ∧ Below w.heap.size w wr) (fun _ vi _ => n - (intOf vi).toNat)
  case atStart => exact ⟨0, _, rfl, rfl, by omega, HO.out, HB.out⟩
  case round =>
    clear HO HB
    obtain ⟨k, x, rfl, rfl, hk, ho, hb⟩ := hrel
    have HO := Lib.hid ho
    have HB := Lib.hid hb
    clear ho hb
    by_cases hlt : k < n
    · obtain ⟨z0, z1⟩ := HZ.out k hlt
      rcases HR.out.below HB.out (Nat.le_refl _) with h0 | ⟨b, o, ha, hb, hm, hc⟩
      · omega
      · subst ha
        have c0 := hc k hlt
        have hs := HB.out.size
        have HT := Lib.hid (tx_succ itB z k)
        clear hc
        have HF := Lib.hid (Format_any (z k) wr z0 z1 (HP.out.grow HB.out))
        go_wp2_with (first
          | (go_at_call 26; (with_reducible refine HF.out.mono ?_); rintro e w1 ⟨rfl, hb1⟩; have HO1 := Lib.hid (owns_below8 HO.out hb1); have HB1 := Lib.hid (HB.out.trans (hb1.mono hs)); have hs1 := HB1.out.size; clear hb1)
          | (at_builtin; refine wpList_append_own _ rfl _ _ 69 rfl w.heap.size 9 i0 (.string ⟨#[]⟩) 1 16 Tryd.underlying69 hi hz0 hz1 hz2 rfl (by decide) x k ((tx itB z k).map Value.string) (by rfl) (HO1.out.alloc _) ⟨w1.heap.size, 0, none⟩ 1 1 [.string (itB (z k))] (by rfl) (by rfl) (by intro j u hj; match j, hj with | 0, hj => (simp at hj; subst hj; simp [Addr.add])) (by intro u hu; simp at hu; subst hu; rfl) (by unfold maxLen; omega) (by omega) (by simp; omega) ?_; intro v' w2 hown' hgrow _; have HO2 := Lib.hid hown'; have HB2 := Lib.hid ((HB1.out.alloc hs1 (.cells #[.string (itB (z k))] 9)).grown hgrow (by simp; omega) (fun q hq => (HO1.out.lt q hq).1)); clear hown' hgrow))
        go_roundw
        case rel => exact ⟨k + 1, _, rfl, by go_num, hlt, by rw [HT.out, List.map_append]; exact HO2.out, HB2.out⟩
        case measure => simp [intOf]; omega
    · obtain rfl : k = n := by omega
      obtain ⟨a', cap', hv, hS⟩ := srow_of_owns HO.out (tx_len itB z k)
      subst hv
      have HSS := Lib.hid hS
      clear hS HO
      go_wp2
      go_ret
      exact ⟨a', cap', rfl, HSS.out, HB.out⟩
set_option maxHeartbeats 4000000 in
set_option maxRecDepth 100000 in
theorem eachA_any (a : Option Addr) (n cap : Nat) (z : Nat → Int) (w : World) (hn : n ≤ 50) (hr : NRow w a n z) (hp : P10 w) :
    Calls Tryd.prog 35 #[.slice a n cap, .func (.func 27) #[] #[]] w fun e w' => ∃ a' cap', e = .returned (.slice a' n cap') ∧ SRow w' a' (tx amB8 z n) ∧ Below w.heap.size w w' := by
  have HR := Lib.hid hr.1
  have HZ := Lib.hid hr.2
  have HP := Lib.hid hp
  clear hr hp
  obtain ⟨i0, hi, hz0, hz1, hz2⟩ := info_parts rpStr
  have hb8 : i0.bytes * n ≤ 281474976710656 := by rw [hz2]; omega
  have hml : n ≤ maxLen := by unfold maxLen; omega
  go_enter Tryd.func35, Tryd.ntmps35
  have tok1 : True := trivial
  go_wp2_with (have _t := tok1; refine wpList_make_own _ rfl _ _ 69 rfl w.heap.size 9 i0 (.string ⟨#[]⟩) 1 Tryd.underlying69 hi hz0 hz1 .i64 .i64 (n : Int) n (by rfl) (by rfl) rfl hb8 hml (Nat.le_refl _) ?_; intro wA oA gA; clear tok1)
  have HO := Lib.hid oA
  have HB := Lib.hid ((Below.refl w.heap.size w).grown gA (Nat.le_refl _) (fun k hk => by cases hk))
  clear oA gA
  go_loopw [5, 13] (fun vs vi wr => ∃ (k : Nat) (x : Value), x = vs ∧ vi = .int .i64 k ∧ k ≤ n ∧ wr.ownsRow w.heap.size 9 1 x k ((tx amB8 z k).map Value.string) ∧ Below w.heap.size w wr) (fun _ vi _ => n - (intOf vi).toNat)
  case atStart => exact ⟨0, _, rfl, rfl, by omega, HO.out, HB.out⟩
  case round =>
    clear HO HB
    obtain ⟨k, x, rfl, rfl, hk, ho, hb⟩ := hrel
    have HO := Lib.hid ho
    have HB := Lib.hid hb
    clear ho hb
    by_cases hlt : k < n
    · obtain ⟨z0, z1⟩ := HZ.out k hlt
      rcases HR.out.below HB.out (Nat.le_refl _) with h0 | ⟨b, o, ha, hb, hm, hc⟩
      · omega
      · subst ha
        have c0 := hc k hlt
        have hs := HB.out.size
        have HT := Lib.hid (tx_succ amB8 z k)
        clear hc
        have HF := Lib.hid (amount_any (z k) wr z0 z1 (HP.out.grow HB.out))
        go_wp2_with (first
          | (go_at_call 27; (with_reducible refine HF.out.mono ?_); rintro e w1 ⟨rfl, hb1⟩; have HO1 := Lib.hid (owns_below8 HO.out hb1); have HB1 := Lib.hid (HB.out.trans (hb1.mono hs)); have hs1 := HB1.out.size; clear hb1)
          | (at_builtin; refine wpList_append_own _ rfl _ _ 69 rfl w.heap.size 9 i0 (.string ⟨#[]⟩) 1 16 Tryd.underlying69 hi hz0 hz1 hz2 rfl (by decide) x k ((tx amB8 z k).map Value.string) (by rfl) (HO1.out.alloc _) ⟨w1.heap.size, 0, none⟩ 1 1 [.string (amB8 (z k))] (by rfl) (by rfl) (by intro j u hj; match j, hj with | 0, hj => (simp at hj; subst hj; simp [Addr.add])) (by intro u hu; simp at hu; subst hu; rfl) (by unfold maxLen; omega) (by omega) (by simp; omega) ?_; intro v' w2 hown' hgrow _; have HO2 := Lib.hid hown'; have HB2 := Lib.hid ((HB1.out.alloc hs1 (.cells #[.string (amB8 (z k))] 9)).grown hgrow (by simp; omega) (fun q hq => (HO1.out.lt q hq).1)); clear hown' hgrow))
        go_roundw
        case rel => exact ⟨k + 1, _, rfl, by go_num, hlt, by rw [HT.out, List.map_append]; exact HO2.out, HB2.out⟩
        case measure => simp [intOf]; omega
    · obtain rfl : k = n := by omega
      obtain ⟨a', cap', hv, hS⟩ := srow_of_owns HO.out (tx_len amB8 z k)
      subst hv
      have HSS := Lib.hid hS
      clear hS HO
      go_wp2
      go_ret
      exact ⟨a', cap', rfl, HSS.out, HB.out⟩
end Go.Proofs.YtgmilhhifigkkaaDoor
