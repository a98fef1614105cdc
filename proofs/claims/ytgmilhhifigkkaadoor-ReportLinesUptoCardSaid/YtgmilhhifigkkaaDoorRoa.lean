/- The report of a payment: the program's. -/
import Derived.Test.YtgmilhhifigkkaaDoorRph
import Derived.Test.YtgmilhhifigkkaaDoorNrow
namespace Go.Lott.Rp
def wOrd : List UInt8 := [111, 114, 100, 101, 114]
def wGross : List UInt8 := [103, 114, 111, 115, 115]
def wTax : List UInt8 := [116, 97, 120]
def wOff : List UInt8 := [111, 102, 102, 115, 101, 116]
def wNet : List UInt8 := [110, 101, 116]
theorem mT_size14 (m : Int) : (Mny.mT m).length ≤ 14 := by
  by_cases h : 0 ≤ m ∧ m ≤ 1000000000000
  · rw [Mny.mT_yes h, List.length_append]
    have e : (10 : Nat) ^ 11 = 100000000000 := rfl
    have := dec_len 10 (m / 100).toNat (by show _ < 10 ^ 11; omega)
    simp; omega
  · rw [Mny.mT_no h]; simp
theorem amT_size15 (n : Int) : (amT n).length ≤ 15 := by
  have h1 := mT_size14 n
  have h2 := mT_size14 (-n)
  unfold amT
  split
  · omega
  · split
    · simp; omega
    · simp
theorem itoa_two {k : Nat} (h : k < 100) : (Lib.itoa (k : Int)).length ≤ 2 := by
  have := dec_len 1 k h
  unfold Lib.itoa
  rw [if_neg (by omega)]
  exact this
def offT (z : Nat → Int) : Nat → List UInt8
  | 0 => []
  | k + 1 => offT z k ++ ln wOff [Lib.itoa k, amT (z k)]
def ordT (s : List UInt8) (g t : Int) (z : Nat → Int) (n : Nat) (m : Int) : List UInt8 := ln wOrd [s] ++ ln wGross [amT g] ++ ln wTax [amT t] ++ offT z n ++ ln wNet [amT m]
end Go.Lott.Rp
namespace Go.Proofs.YtgmilhhifigkkaaDoor
open Go.ChangeShapes Go.WideShapes Go.ChangeAt Go.RowKit Go.Lott
open Go.Lott.Mny Go.Lott.Rp
theorem amB8_size15 (m : Int) : (amB8 m).size ≤ 15 := by
  have := amT_size15 m
  rw [← amB8_list] at this
  simpa using this
theorem itB_two {k : Nat} (h : k < 100) : (itB (k : Int)).size ≤ 2 := by
  have := itoa_two h
  rw [← itB_list] at this
  simpa using this
theorem lineA30 {B b k : Nat} {V W w : World} {l : List UInt8} (s : ByteArray) (n : Int) (h : St B b V W k l w) (hm : s.size ≤ 13) (hk : k + 30 ≤ 140737488355328) :
    Calls Tryd.prog 25 #[.pointer (some ⟨b, 0, none⟩), .string s, .slice (some ⟨w.heap.size, 0, none⟩) 1 1] (w.alloc (.cells #[.string (amB8 n)] 9)) fun e w' => e = .returned (.tuple #[]) ∧ St B b V W (k + 30) (l ++ ln s.data.toList [amT n]) w' := by
  have h1 := line1 30 s (amB8 n) h (by have := amB8_size15 n; omega) hk
  rwa [amB8_list] at h1
theorem St.mono {B b k k' : Nat} {V W w : World} {l : List UInt8} (h : St B b V W k l w) (hk : k ≤ k') : St B b V W k' l w := ⟨h.1, h.2.1, h.2.2.1, h.2.2.2.1, h.2.2.2.2.1, h.2.2.2.2.2.1, Nat.le_trans h.len hk⟩
/-- A line of two texts, out of a row that was just laid. -/
theorem line2 {B b k : Nat} {V W w : World} {l : List UInt8} (m : Nat) (s v u : ByteArray) (h : St B b V W k l w) (hm : s.size + v.size + u.size + 3 ≤ m) (hk : k + m ≤ 140737488355328) :
    Calls Tryd.prog 25 #[.pointer (some ⟨b, 0, none⟩), .string s, .slice (some ⟨w.heap.size, 0, none⟩) 2 2] (w.alloc (.cells #[.string v, .string u] 9)) fun e w' => e = .returned (.tuple #[]) ∧ St B b V W (k + m) (l ++ ln s.data.toList [v.data.toList, u.data.toList]) w' :=
  lineS m s _ 2 2 [v, u] (h.alloc _) (.inr ⟨_, _, rfl, heap_alloc_new w _, fun i x hx => by
    match i, hx with
    | 0, hx => simp at hx; subst hx; rfl
    | 1, hx => simp at hx; subst hx; rfl⟩) rfl (by
      have e1 : s.data.toList.length = s.size := by simp
      have e2 : v.data.toList.length = v.size := by simp
      have e3 : u.data.toList.length = u.size := by simp
      rw [ln_len, e1]
      show s.size + (vals [v.data.toList, u.data.toList]).length + 1 ≤ m
      unfold vals
      simp [e2, e3]; omega) hk
theorem line1x {B b k : Nat} {V W w : World} {l : List UInt8} (m : Nat) (s v : ByteArray) (h : St B b V W k l w) (x : Nat) (hx : w.heap.size = x) (hm : s.size + v.size + 2 ≤ m) (hk : k + m ≤ 140737488355328) :
    Calls Tryd.prog 25 #[.pointer (some ⟨b, 0, none⟩), .string s, .slice (some ⟨x, 0, none⟩) 1 1] (w.alloc (.cells #[.string v] 9)) fun e w' => e = .returned (.tuple #[]) ∧ St B b V W (k + m) (l ++ ln s.data.toList [v.data.toList]) w' := by
  subst hx
  exact line1 m s v h hm hk
theorem ord_start (w : World) (o1 : Obj) (hp : P10 w) : St (w.heap.size + 1) (w.heap.size + 1) w ((w.alloc o1).alloc (.cells #[.pointer none, .slice none 0 0] 59)) 0 [] ((w.alloc o1).alloc (.cells #[.pointer none, .slice none 0 0] 59)) := by
  have hf := Pg.fresh (w.alloc o1)
  exact ⟨by simpa using hf, Below.refl _ _, by simp, by omega, ((Below.refl _ _).alloc (Nat.le_refl _) _).alloc (by simp) _, hp, by simp⟩
theorem ord_cells (w : World) (g t m : Int) (v : Value) (o2 : Obj) (T : TypeId) (k : Nat) (l : List UInt8) (w1 : World)
    (h : St (w.heap.size + 1) (w.heap.size + 1) w ((w.alloc (.cells #[.int .i64 g, .int .i64 t, v, .int .i64 m] T)).alloc o2) k l w1) :
    w1.cell? ⟨w.heap.size, 0, none⟩ = some (.int .i64 g) ∧ w1.cell? ⟨w.heap.size, 1, none⟩ = some (.int .i64 t) ∧ w1.cell? ⟨w.heap.size, 2, none⟩ = some v ∧ w1.cell? ⟨w.heap.size, 3, none⟩ = some (.int .i64 m) :=
  ⟨h.cell (by omega) (by simp), h.cell (by omega) (by simp), h.cell (by omega) (by simp), h.cell (by omega) (by simp)⟩
theorem wOff_size : (⟨#[111, 102, 102, 115, 101, 116]⟩ : ByteArray).size = 6 := rfl
theorem wOrd_size : (⟨#[111, 114, 100, 101, 114]⟩ : ByteArray).size = 5 := rfl
set_option maxHeartbeats 4000000 in
set_option maxRecDepth 100000 in
theorem order_any (s : ByteArray) (g t m : Int) (a : Option Addr) (n cap : Nat) (z : Nat → Int) (w : World) (hs : s.size ≤ 140737488351232) (hg : I64 g) (ht : I64 t) (hm : I64 m) (hr : NRow w a n z) (hn : n ≤ 100) (hp : P10 w) :
    Calls Tryd.prog 14 #[.string s, .agg #[.int .i64 g, .int .i64 t, .slice a n cap, .int .i64 m]] w (RetB (.string ⟨(ordT s.data.toList g t z n m).toArray⟩) w) := by
  obtain ⟨g0, g1⟩ := hg
  obtain ⟨t0, t1⟩ := ht
  obtain ⟨m0, m1⟩ := hm
  have HR := Lib.hid hr.1
  have HZ := Lib.hid hr.2
  have HS := Lib.hid (ord_start w (.cells #[.int .i64 g, .int .i64 t, .slice a n cap, .int .i64 m] 31) hp)
  have HC := Lib.hid (ord_cells w g t m (.slice a n cap) (.cells #[.pointer none, .slice none 0 0] 59) 31)
  clear hr hp
  go_enter Tryd.func14, Tryd.ntmps14
  go_wp2_with (first | (go_at_call 27; refine (amountS _ HS.out (by omega) (by omega)).mono ?_; rintro e w1 ⟨rfl, hs⟩; replace HS := Lib.hid hs; clear hs) | (go_at_call 25; (with_reducible refine (line1x (s.size + 20) ⟨#[111, 114, 100, 101, 114]⟩ s HS.out _ (by simp) (by rw [wOrd_size]; omega) (by omega)).mono ?_); rintro e w1 ⟨rfl, hs⟩; replace HS := Lib.hid hs; clear hs; obtain ⟨d0, d1, d2, d3⟩ := HC.out _ _ _ HS.out) | (go_at_call 25; refine (lineA30 _ _ HS.out (by decide) (by omega)).mono ?_; rintro e w1 ⟨rfl, hs⟩; replace HS := Lib.hid hs; clear hs; obtain ⟨d0, d1, d2, d3⟩ := HC.out _ _ _ HS.out))
  have HT := Lib.hid (fun l => show l = ([] ++ ln (⟨#[111, 114, 100, 101, 114]⟩ : ByteArray).data.toList [s.data.toList] ++ ln (⟨#[103, 114, 111, 115, 115]⟩ : ByteArray).data.toList [amT g] ++ ln (⟨#[116, 97, 120]⟩ : ByteArray).data.toList [amT t]) → l = ln wOrd [s.data.toList] ++ ln wGross [amT g] ++ ln wTax [amT t] ++ offT z 0 from fun h => by rw [h]; simp only [List.nil_append, offT, List.append_nil]; rfl)
  go_loopw [29] (fun vi wr => ∃ k : Nat, vi = .int .i64 k ∧ k ≤ n ∧ St (w.heap.size + 1) (w.heap.size + 1) w ((w.alloc (.cells #[.int .i64 g, .int .i64 t, .slice a n cap, .int .i64 m] 31)).alloc (.cells #[.pointer none, .slice none 0 0] 59)) (s.size + 90 + 30 * k) (ln wOrd [s.data.toList] ++ ln wGross [amT g] ++ ln wTax [amT t] ++ offT z k) wr) (fun vi _ => n - (intOf vi).toNat)
  case atStart =>
    refine ⟨0, rfl, by omega, ?_⟩
    have h := HS.out.mono (show _ ≤ s.size + 90 + 30 * 0 by omega)
    rw [HT.out _ rfl] at h
    exact h
  case round =>
    clear d0 d1 d2 d3 HS
    obtain ⟨k, rfl, hk, hs1⟩ := hrel
    have HS := Lib.hid hs1
    clear hs1
    obtain ⟨d0, d1, d2, d3⟩ := HC.out _ _ _ HS.out
    by_cases hlt : k < n
    · obtain ⟨z0, z1⟩ := HZ.out k hlt
      rcases HR.out.below HS.out.bel (Nat.le_refl _) with h0 | ⟨b, o, ha, hb, hm, hc⟩
      · omega
      · subst ha
        have c0 := hc k hlt
        have zi := itB_two (show k < 100 by omega)
        have za := amB8_size15 (z k)
        have HI := Lib.hid (itB_list (k : Int))
        have HA := Lib.hid (amB8_list (z k))
        clear hc
        go_wp2_with (first
          | (go_at_call 26; refine (formatS (k : Int) HS.out (by omega) (by omega)).mono ?_; rintro e w1 ⟨rfl, hs⟩; replace HS := Lib.hid hs; clear hs)
          | (go_at_call 27; refine (amountS (z k) HS.out z0 z1).mono ?_; rintro e w1 ⟨rfl, hs⟩; replace HS := Lib.hid hs; clear hs)
          | (go_at_call 25; (refine (line2 30 ⟨#[111, 102, 102, 115, 101, 116]⟩ (itB (k : Int)) (amB8 (z k)) HS.out (by rw [wOff_size]; omega) (by omega)).mono ?_); rintro e w1 ⟨rfl, hs⟩; replace HS := Lib.hid hs; clear hs))
        go_roundw
        case rel =>
          refine ⟨k + 1, by go_num, hlt, ?_⟩
          have h := HS.out.mono (show _ ≤ s.size + 90 + 30 * (k + 1) by omega)
          rw [HI.out, HA.out, List.append_assoc] at h
          exact h
        case measure => simp [intOf]; omega
    · obtain rfl : k = n := by omega
      go_wp2_with (first | (go_at_call 27; refine (amountS _ HS.out (by omega) (by omega)).mono ?_; rintro e w1 ⟨rfl, hs⟩; replace HS := Lib.hid hs; clear hs) | (go_at_call 25; refine (lineA30 _ _ HS.out (by decide) (by omega)).mono ?_; rintro e w1 ⟨rfl, hs⟩; replace HS := Lib.hid hs; clear hs; obtain ⟨d0, d1, d2, d3⟩ := HC.out _ _ _ HS.out) | (go_at_call 28; refine (st_any _ _ _ _ HS.out.1 (by simp [ln_ne])).mono ?_; rintro e w1 ⟨rfl, hs⟩; have HZZ := Lib.hid (HS.out.bel.trans (hs.mono HS.out.2.2.2.1)); clear hs))
      go_ret
      exact ⟨ret_str (by unfold ordT; simp only [List.append_assoc]; rfl), HZZ.out⟩
end Go.Proofs.YtgmilhhifigkkaaDoor
