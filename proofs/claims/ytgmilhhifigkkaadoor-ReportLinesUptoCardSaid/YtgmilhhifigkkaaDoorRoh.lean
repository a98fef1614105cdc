/- The report of a draw: the program's. -/
import Derived.Test.YtgmilhhifigkkaaDoorRog
import Derived.Deep.RegionHeld3
import Derived.Deep.DrawnRows
import Derived.WalkLawsBesides
namespace Go.Lott.Rp
def wDraw : List UInt8 := [100, 114, 97, 119]
def wTier : List UInt8 := [116, 105, 101, 114]
def wBrk : List UInt8 := [98, 114, 101, 97, 107, 97, 103, 101]
def wDrawn : List UInt8 := [100, 114, 97, 119, 110]
def wCarry : List UInt8 := [99, 97, 114, 114, 121]
def wResv : List UInt8 := [114, 101, 115, 101, 114, 118, 101]
def wRolls : List UInt8 := [114, 111, 108, 108, 115]
def tierT (zc ze zp : Nat → Int) : Nat → List UInt8
  | 0 => []
  | k + 1 => tierT zc ze zp k ++ ln wTier [Lib.itoa k, Lib.itoa (zc k), amT (ze k), amT (zp k)]
def amsT (n : Nat) (z : Nat → Int) : List (List UInt8) := (List.range n).map fun i => amT (z i)
/-- The tail of a report of a draw. -/
def tailT (br dr : Int) (nn : Nat) (zn : Nat → Int) (rs ro : Int) : List UInt8 := ln wBrk [amT br] ++ (ln wDrawn [amT dr] ++ (ln wCarry (amsT nn zn) ++ (ln wResv [amT rs] ++ ln wRolls [Lib.itoa ro])))
/-- Its head. -/
def headT (gn : List UInt8) (n : Int) : List UInt8 := ln wDraw [gn, Lib.itoa n]
end Go.Lott.Rp
namespace Go.Proofs.YtgmilhhifigkkaaDoor
open Go.ChangeShapes Go.WideShapes Go.ChangeAt Go.RowKit Go.Lott
open Go.Lott.Mny Go.Lott.Rp
attribute [local go_sem ↓] Go.wp_at_zero Go.wp_at_succ
def drwT (gn : List UInt8) (n : Int) (n1 : Nat) (z1 : Nat → Int) (n2 : Nat) (z2 : Nat → Int) (n3 : Nat) (z3 : Nat → Int) (f : Int) (s : List UInt8) (k : Nat) (zc ze zp : Nat → Int) (br dr : Int) (nn : Nat) (zn : Nat → Int) (rs ro : Int) : List UInt8 :=
  headT gn n ++ (resT n1 z1 n2 z2 n3 z3 f s ++ (tierT zc ze zp k ++ tailT br dr nn zn rs ro))
theorem dr_start {w V : World} {g r a : Array Value} {T1 T2 T3 : TypeId} (h : V = (((w.alloc (.cells g T1)).alloc (.cells r T2)).alloc (.cells a T3)).alloc (.cells #[.pointer none, .slice none 0 0] 59)) (hp : P10 w) :
    St (w.heap.size + 1 + 1 + 1) (w.heap.size + 1 + 1 + 1) w V 0 [] V ∧ Cel V w.heap.size g T1 ∧ Cel V (w.heap.size + 1) r T2 ∧ Cel V (w.heap.size + 1 + 1) a T3 := by
  subst h
  have hf := Pg.fresh (((w.alloc (.cells g T1)).alloc (.cells r T2)).alloc (.cells a T3))
  have e1 : (w.alloc (.cells g T1)).heap.size = w.heap.size + 1 := by simp
  have e2 : ((w.alloc (.cells g T1)).alloc (.cells r T2)).heap.size = w.heap.size + 1 + 1 := by simp
  refine ⟨⟨by simpa using hf, Below.refl _ _, by simp, by omega, ((((Below.refl _ _).alloc (Nat.le_refl _) _).alloc (by simp) _).alloc (by simp; omega) _).alloc (by simp; omega) _, hp, by simp⟩, ?_, ?_, ?_⟩
  · exact (((Cel.new w g T1).alloc _).alloc _).alloc _
  · have := ((Cel.new (w.alloc (.cells g T1)) r T2).alloc (.cells a T3)).alloc (.cells #[.pointer none, .slice none 0 0] 59)
    rw [e1] at this; exact this
  · have := (Cel.new ((w.alloc (.cells g T1)).alloc (.cells r T2)) a T3).alloc (.cells #[.pointer none, .slice none 0 0] 59)
    rw [e2] at this; exact this
theorem min3 (a b c m : Nat) (hm : m = min (min a b) c) (w : World) : (Builtin.min_ #[3, 3, 3] 3 #[.int .i64 (a : Int), .int .i64 (b : Int), .int .i64 (c : Int)]).run Tryd.prog w = .ok (.int .i64 (m : Int)) w := by
  rw [run_min_int3]
  congr 2
  subst hm
  split <;> split <;> omega
theorem eachAS {B b k : Nat} {V W w : World} {l : List UInt8} (a : Option Addr) (n cap : Nat) (z : Nat → Int) (h : St B b V W k l w) (hn : n ≤ 50) (hr : NRow w a n z) :
    Calls Tryd.prog 35 #[.slice a n cap, .func (.func 27) #[] #[]] w fun e w' => ∃ a' cap', e = .returned (.slice a' n cap') ∧ SRow w' a' (tx amB8 z n) ∧ St B b V W k l w' :=
  (eachA_any a n cap z w hn hr h.tab).mono fun _ _ ⟨a', c', he, hs, hb⟩ => ⟨a', c', he, hs, h.call hb⟩
theorem lineAn {B b k : Nat} {V W w : World} {l : List UInt8} (s : ByteArray) (a : Option Addr) (n cap : Nat) (z : Nat → Int) (h : St B b V W k l w) (hr : SRow w a (tx amB8 z n)) (hn : n ≤ 50) (hs : s.size ≤ 20) (hk : k + 1100 ≤ 140737488355328) :
    Calls Tryd.prog 25 #[.pointer (some ⟨b, 0, none⟩), .string s, .slice a n cap] w fun e w' => e = .returned (.tuple #[]) ∧ St B b V W (k + 1100) (l ++ ln s.data.toList (amsT n z)) w' := by
  have h1 := lineS 1100 s a n cap (tx amB8 z n) h hr (tx_len amB8 z n) (by rw [bts_amB]; exact amsT_len hn _ (by simpa using hs)) hk
  rwa [bts_amB] at h1
/-- A line of four texts, out of a row that was just laid. -/
theorem line4 {B b k : Nat} {V W w : World} {l : List UInt8} (m : Nat) (s v1 v2 v3 v4 : ByteArray) (h : St B b V W k l w) (hm : s.size + v1.size + v2.size + v3.size + v4.size + 5 ≤ m) (hk : k + m ≤ 140737488355328) :
    Calls Tryd.prog 25 #[.pointer (some ⟨b, 0, none⟩), .string s, .slice (some ⟨w.heap.size, 0, none⟩) 4 4] (w.alloc (.cells #[.string v1, .string v2, .string v3, .string v4] 9)) fun e w' => e = .returned (.tuple #[]) ∧ St B b V W (k + m) (l ++ ln s.data.toList [v1.data.toList, v2.data.toList, v3.data.toList, v4.data.toList]) w' :=
  lineS m s _ 4 4 [v1, v2, v3, v4] (h.alloc _) (.inr ⟨_, _, rfl, heap_alloc_new w _, fun i x hx => by
    match i, hx with
    | 0, hx => simp at hx; subst hx; rfl
    | 1, hx => simp at hx; subst hx; rfl
    | 2, hx => simp at hx; subst hx; rfl
    | 3, hx => simp at hx; subst hx; rfl⟩) rfl (by
      have e0 : s.data.toList.length = s.size := by simp
      have e1 : v1.data.toList.length = v1.size := by simp
      have e2 : v2.data.toList.length = v2.size := by simp
      have e3 : v3.data.toList.length = v3.size := by simp
      have e4 : v4.data.toList.length = v4.size := by simp
      rw [ln_len, e0]
      show s.size + (vals [v1.data.toList, v2.data.toList, v3.data.toList, v4.data.toList]).length + 1 ≤ m
      unfold vals
      simp [e1, e2, e3, e4]; omega) hk
theorem wTier_size : (⟨#[116, 105, 101, 114]⟩ : ByteArray).size = 4 := rfl
theorem wDraw_size : (⟨#[100, 114, 97, 119]⟩ : ByteArray).size = 4 := rfl
set_option maxHeartbeats 4000000 in
set_option maxRecDepth 100000 in
theorem draw_any (gn : ByteArray) (y : Nat → Int) (p1 : Option Addr) (q1 r1 : Nat) (p2 : Option Addr) (q2 r2 : Nat) (n : Int) (a1 : Option Addr) (n1 c1 : Nat) (z1 : Nat → Int) (a2 : Option Addr) (n2 c2 : Nat) (z2 : Nat → Int) (a3 : Option Addr) (n3 c3 : Nat) (z3 : Nat → Int) (f : Int) (s : ByteArray) (ac : Option Addr) (nc cc : Nat) (zc : Nat → Int) (ae : Option Addr) (ne ce : Nat) (ze : Nat → Int) (ap : Option Addr) (np cp : Nat) (zp : Nat → Int) (br dr : Int) (an : Option Addr) (nn cn : Nat) (zn : Nat → Int) (rs ro : Int) (w : World) (hgn : gn.size ≤ 2000000) (hn : I64 n) (hr1 : NRow w a1 n1 z1) (hr2 : NRow w a2 n2 z2) (hr3 : NRow w a3 n3 z3) (hf : I64 f) (hs : s.size ≤ 2000000) (hrc : NRow w ac nc zc) (hre : NRow w ae ne ze) (hrp : NRow w ap np zp) (hbr : I64 br) (hdr : I64 dr) (hrn : NRow w an nn zn) (hrs : I64 rs) (hro : I64 ro) (hn1 : n1 ≤ 50) (hn2 : n2 ≤ 50) (hn3 : n3 ≤ 50) (hnc : nc ≤ 50) (hnn : nn ≤ 50) (hp : P10 w) :
    Calls Tryd.prog 21 #[.agg #[.string gn, .int .i64 (y 1), .int .i64 (y 2), .int .i64 (y 3), .int .i64 (y 4), .int .i64 (y 5), .int .i64 (y 6), .int .i64 (y 7), .int .i64 (y 8), .int .i64 (y 9), .int .i64 (y 10), .int .i64 (y 11), .int .i64 (y 12), .int .i64 (y 13), .int .i64 (y 14), .int .i64 (y 15), .int .i64 (y 16), .int .i64 (y 17), .int .i64 (y 18), .int .i64 (y 19), .slice p1 q1 r1, .slice p2 q2 r2], .int .i64 n, .agg #[.slice a1 n1 c1, .slice a2 n2 c2, .slice a3 n3 c3, .int .i64 f, .string s], .agg #[.slice ac nc cc, .slice ae ne ce, .slice ap np cp, .int .i64 br, .int .i64 dr, .slice an nn cn, .int .i64 rs, .int .i64 ro]] w (RetB (.string ⟨(drwT gn.data.toList n n1 z1 n2 z2 n3 z3 f s.data.toList (min (min nc ne) np) zc ze zp br dr nn zn rs ro).toArray⟩) w) := by
  obtain ⟨n0, n9⟩ := hn
  obtain ⟨V, hV⟩ : ∃ V : World, V = (((w.alloc (.cells #[.string gn, .int .i64 (y 1), .int .i64 (y 2), .int .i64 (y 3), .int .i64 (y 4), .int .i64 (y 5), .int .i64 (y 6), .int .i64 (y 7), .int .i64 (y 8), .int .i64 (y 9), .int .i64 (y 10), .int .i64 (y 11), .int .i64 (y 12), .int .i64 (y 13), .int .i64 (y 14), .int .i64 (y 15), .int .i64 (y 16), .int .i64 (y 17), .int .i64 (y 18), .int .i64 (y 19), .slice p1 q1 r1, .slice p2 q2 r2] 41)).alloc (.cells #[.slice a1 n1 c1, .slice a2 n2 c2, .slice a3 n3 c3, .int .i64 f, .string s] 43)).alloc (.cells #[.slice ac nc cc, .slice ae ne ce, .slice ap np cp, .int .i64 br, .int .i64 dr, .slice an nn cn, .int .i64 rs, .int .i64 ro] 47)).alloc (.cells #[.pointer none, .slice none 0 0] 59) := ⟨_, rfl⟩
  obtain ⟨hst, hc1, hc2, hc3⟩ := dr_start hV hp
  have HS := Lib.hid hst
  have HC1 := Lib.hid fun k l w1 (h : St (w.heap.size + 1 + 1 + 1) (w.heap.size + 1 + 1 + 1) w V k l w1) => h.cell (g := w.heap.size) (o := 0) (v := .string gn) (by omega) (hc1.cell 0)
  have HC2 := Lib.hid fun k l w1 (h : St (w.heap.size + 1 + 1 + 1) (w.heap.size + 1 + 1 + 1) w V k l w1) j v (hv : #[.slice a1 n1 c1, .slice a2 n2 c2, .slice a3 n3 c3, .int .i64 f, .string s][j]? = some v) => h.cell (g := w.heap.size + 1) (o := j) (v := v) (by omega) ((hc2.cell j).trans hv)
  have HC3 := Lib.hid fun k l w1 (h : St (w.heap.size + 1 + 1 + 1) (w.heap.size + 1 + 1 + 1) w V k l w1) j v (hv : #[.slice ac nc cc, .slice ae ne ce, .slice ap np cp, .int .i64 br, .int .i64 dr, .slice an nn cn, .int .i64 rs, .int .i64 ro][j]? = some v) => h.cell (g := w.heap.size + 1 + 1) (o := j) (v := v) (by omega) ((hc3.cell j).trans hv)
  have HW := Lib.hid hV
  have HI1 := Lib.hid hr1
  have HI2 := Lib.hid hr2
  have HI3 := Lib.hid hr3
  have HIc := Lib.hid hrc
  have HIe := Lib.hid hre
  have HIp := Lib.hid hrp
  have HIn := Lib.hid hrn
  have HB := Lib.hid (And.intro hf (And.intro hbr (And.intro hdr (And.intro hrs hro))))
  clear hst hc1 hc2 hc3 hV hr1 hr2 hr3 hrc hre hrp hrn hf hbr hdr hrs hro hp
  obtain ⟨mt, hmt⟩ : ∃ mt, mt = min (min nc ne) np := ⟨_, rfl⟩
  rw [← hmt]
  have hmin := min3 nc ne np mt hmt
  have hmc : mt ≤ nc := by omega
  have hme : mt ≤ ne := by omega
  have hmp : mt ≤ np := by omega
  clear hmt
  go_enter Tryd.func21, Tryd.ntmps21
  go_wp2
  rw [← HW.out]
  have c0 := HC1.out _ _ _ HS.out
  replace HS := Lib.hid (HS.out.call (Below.refl _ _).drew)
  go_region_held3 (fun w' => w'.cell? ⟨w.heap.size, 0, none⟩ = some (.string gn))
    (first | exact hS.out | go_keep)
    (first
      | (go_at_call 26; (with_reducible refine (formatS n HS.out n0 n9).mono ?_); rintro e w1 ⟨rfl, hs⟩; replace HS := Lib.hid hs; clear hs; have hS := Lib.hid (HC1.out _ _ _ HS.out))
      | (go_at_call 25; (with_reducible refine (line2 (gn.size + 40) ⟨#[100, 114, 97, 119]⟩ gn (itB n) HS.out (by rw [wDraw_size]; have := itB_size n0 n9; omega) (by omega)).mono ?_); rintro e w1 ⟨rfl, hs⟩; replace HS := Lib.hid hs; clear hs; have hS := Lib.hid (HC1.out _ _ _ HS.out)))
  clear c0
  have e0 := HC2.out _ _ _ HS.out 0 _ rfl
  have e1 := HC2.out _ _ _ HS.out 1 _ rfl
  have e2 := HC2.out _ _ _ HS.out 2 _ rfl
  have e3 := HC2.out _ _ _ HS.out 3 _ rfl
  have e4 := HC2.out _ _ _ HS.out 4 _ rfl
  go_wp2_with (go_at_call 34; (with_reducible refine (result_any _ _ _ _ _ _ _ a1 n1 c1 z1 a2 n2 c2 z2 a3 n3 c3 z3 f s HS.out (by omega) hn1 hn2 hn3 HI1.out HI2.out HI3.out HB.out.1).mono ?_); rintro e w1 ⟨rfl, hs⟩; replace HS := Lib.hid hs; clear hs; have m0 := HC3.out _ _ _ HS.out 0 _ rfl; have m1 := HC3.out _ _ _ HS.out 1 _ rfl; have m2 := HC3.out _ _ _ HS.out 2 _ rfl; have m3 := HC3.out _ _ _ HS.out 3 _ rfl; have m4 := HC3.out _ _ _ HS.out 4 _ rfl; have m5 := HC3.out _ _ _ HS.out 5 _ rfl; have m6 := HC3.out _ _ _ HS.out 6 _ rfl; have m7 := HC3.out _ _ _ HS.out 7 _ rfl)
  clear e0 e1 e2 e3 e4 m0 m1 m2 m3 m4 m5 m6 m7 hmin
  have HT := Lib.hid (fun l => show l = ([] ++ ln (⟨#[100, 114, 97, 119]⟩ : ByteArray).data.toList [gn.data.toList, (itB n).data.toList] ++ resT n1 z1 n2 z2 n3 z3 f s.data.toList) → l = headT gn.data.toList n ++ resT n1 z1 n2 z2 n3 z3 f s.data.toList ++ tierT zc ze zp 0 from fun h => by rw [h, itB_list]; simp only [List.nil_append, tierT, List.append_nil]; rfl)
  go_loopw [33] (fun vi wr => ∃ k : Nat, vi = .int .i64 k ∧ k ≤ mt ∧ St (w.heap.size + 1 + 1 + 1) (w.heap.size + 1 + 1 + 1) w V (gn.size + s.size + 20000 + 200 * k) (headT gn.data.toList n ++ resT n1 z1 n2 z2 n3 z3 f s.data.toList ++ tierT zc ze zp k) wr) (fun vi _ => mt - (intOf vi).toNat)
  case atStart =>
    refine ⟨0, rfl, by omega, ?_⟩
    have h := HS.out.mono (show _ ≤ gn.size + s.size + 20000 + 200 * 0 by omega)
    rw [HT.out _ rfl] at h
    exact h
  case round =>
    clear HS
    obtain ⟨k, rfl, hk, hs1⟩ := hrel
    have HS := Lib.hid hs1
    clear hs1
    have m0 := HC3.out _ _ _ HS.out 0 _ rfl; have m1 := HC3.out _ _ _ HS.out 1 _ rfl; have m2 := HC3.out _ _ _ HS.out 2 _ rfl; have m3 := HC3.out _ _ _ HS.out 3 _ rfl; have m4 := HC3.out _ _ _ HS.out 4 _ rfl; have m5 := HC3.out _ _ _ HS.out 5 _ rfl; have m6 := HC3.out _ _ _ HS.out 6 _ rfl; have m7 := HC3.out _ _ _ HS.out 7 _ rfl
    by_cases hlt : k < mt
    · obtain ⟨x0, x1⟩ := HIc.out.2 k (by omega)
      obtain ⟨y0, y1⟩ := HIe.out.2 k (by omega)
      obtain ⟨u0, u1⟩ := HIp.out.2 k (by omega)
      rcases HIc.out.1 with h0 | ⟨b1, o1, ha1, hb1, _, hcc⟩
      · omega
      rcases HIe.out.1 with h0 | ⟨b2, o2, ha2, hb2, _, hce⟩
      · omega
      rcases HIp.out.1 with h0 | ⟨b3, o3, ha3, hb3, _, hcp⟩
      · omega
      subst ha1 ha2 ha3
      have HQ := Lib.hid fun k' l w1 (h : St (w.heap.size + 1 + 1 + 1) (w.heap.size + 1 + 1 + 1) w V k' l w1) =>
        (⟨HC3.out _ _ _ h 0 _ rfl, HC3.out _ _ _ h 1 _ rfl, HC3.out _ _ _ h 2 _ rfl, (h.bel.cell (p := ⟨b1, o1 + k, none⟩) hb1).trans (hcc k (by omega)), (h.bel.cell (p := ⟨b2, o2 + k, none⟩) hb2).trans (hce k (by omega)), (h.bel.cell (p := ⟨b3, o3 + k, none⟩) hb3).trans (hcp k (by omega))⟩ :
          w1.cell? ⟨w.heap.size + 1 + 1, 0, none⟩ = some (.slice (some ⟨b1, o1, none⟩) nc cc) ∧ w1.cell? ⟨w.heap.size + 1 + 1, 1, none⟩ = some (.slice (some ⟨b2, o2, none⟩) ne ce) ∧ w1.cell? ⟨w.heap.size + 1 + 1, 2, none⟩ = some (.slice (some ⟨b3, o3, none⟩) np cp) ∧
          w1.cell? ⟨b1, o1 + k, none⟩ = some (.int .i64 (zc k)) ∧ w1.cell? ⟨b2, o2 + k, none⟩ = some (.int .i64 (ze k)) ∧ w1.cell? ⟨b3, o3 + k, none⟩ = some (.int .i64 (zp k)))
      have hSz : Hid ((⟨#[116, 105, 101, 114]⟩ : ByteArray).size + (itB (k : Int)).size + (itB (zc k)).size + (amB8 (ze k)).size + (amB8 (zp k)).size + 5 ≤ 200) := Lib.hid (by
        rw [wTier_size]
        have q1 := itB_size (n := (k : Int)) (by omega) (by omega)
        have q2 := itB_size x0 x1
        have q3 := amB8_size (ze k)
        have q4 := amB8_size (zp k)
        omega)
      have hL := Lib.hid (And.intro (itB_list (k : Int)) (And.intro (itB_list (zc k)) (And.intro (amB8_list (ze k)) (amB8_list (zp k)))))
      have i1 : (k : Int) < (nc : Int) := by omega
      have i2 : (k : Int) < (ne : Int) := by omega
      have i3 : (k : Int) < (np : Int) := by omega
      have i4 : (0 : Int) ≤ (k : Int) := by omega
      have i5 : k < nc := by omega
      have i6 : k < ne := by omega
      have i7 : k < np := by omega
      have i8 : (k : Int) ≤ 50 := by omega
      clear hcc hce hcp m0 m1 m2 m3 m4 m5 m6 m7
      have hq := HQ.out _ _ _ HS.out
      go_wp2
      replace HS := Lib.hid (HS.out.call (Below.refl _ _).drew)
      go_region_held3 (fun w1 => w1.cell? ⟨w.heap.size + 1 + 1, 0, none⟩ = some (.slice (some ⟨b1, o1, none⟩) nc cc) ∧ w1.cell? ⟨w.heap.size + 1 + 1, 1, none⟩ = some (.slice (some ⟨b2, o2, none⟩) ne ce) ∧ w1.cell? ⟨w.heap.size + 1 + 1, 2, none⟩ = some (.slice (some ⟨b3, o3, none⟩) np cp) ∧
          w1.cell? ⟨b1, o1 + k, none⟩ = some (.int .i64 (zc k)) ∧ w1.cell? ⟨b2, o2 + k, none⟩ = some (.int .i64 (ze k)) ∧ w1.cell? ⟨b3, o3 + k, none⟩ = some (.int .i64 (zp k)))
        (first | exact HQ.out _ _ _ HS.out | exact HQ.out _ _ _ (HS.out.alloc _) | go_keep)
        (first
          | (go_at_call 26; (with_reducible refine (formatS (k : Int) HS.out (by omega) (by omega)).mono ?_); rintro e w1 ⟨rfl, hs⟩; replace HS := Lib.hid hs; clear hs)
          | (go_at_call 26; (with_reducible refine (formatS (zc k) HS.out x0 x1).mono ?_); rintro e w1 ⟨rfl, hs⟩; replace HS := Lib.hid hs; clear hs)
          | (go_at_call 27; (with_reducible refine (amountS (ze k) HS.out y0 y1).mono ?_); rintro e w1 ⟨rfl, hs⟩; replace HS := Lib.hid hs; clear hs)
          | (go_at_call 27; (with_reducible refine (amountS (zp k) HS.out u0 u1).mono ?_); rintro e w1 ⟨rfl, hs⟩; replace HS := Lib.hid hs; clear hs)
          | (go_at_call 25; (with_reducible refine (line4 200 ⟨#[116, 105, 101, 114]⟩ (itB (k : Int)) (itB (zc k)) (amB8 (ze k)) (amB8 (zp k)) HS.out hSz.out (by omega)).mono ?_); rintro e w1 ⟨rfl, hs⟩; replace HS := Lib.hid hs; clear hs))
      go_wp2
      go_roundw
      case rel =>
        refine ⟨k + 1, by go_num, hlt, ?_⟩
        have h := HS.out.mono (show _ ≤ gn.size + s.size + 20000 + 200 * (k + 1) by omega)
        rw [hL.out.1, hL.out.2.1, hL.out.2.2.1, hL.out.2.2.2, List.append_assoc] at h
        exact h
      case measure => simp [intOf]; omega
    · obtain rfl : k = mt := by omega
      obtain ⟨hf, hbr, hdr, hrs, hro⟩ := HB.out
      obtain ⟨x0, x1⟩ := hbr
      obtain ⟨y0, y1⟩ := hdr
      obtain ⟨u0, u1⟩ := hrs
      obtain ⟨v0, v1⟩ := hro
      clear hf
      go_wp2_with (first
        | (go_at_call 27; (first | (with_reducible refine (amountS br HS.out x0 x1).mono ?_) | (with_reducible refine (amountS dr HS.out y0 y1).mono ?_) | (with_reducible refine (amountS rs HS.out u0 u1).mono ?_)); rintro e w1 ⟨rfl, hs⟩; replace HS := Lib.hid hs; clear hs)
        | (go_at_call 26; (with_reducible refine (formatS ro HS.out v0 v1).mono ?_); rintro e w1 ⟨rfl, hs⟩; replace HS := Lib.hid hs; clear hs)
        | (go_at_call 35; (with_reducible refine (eachAS an nn cn zn HS.out hnn (HIn.out.below HS.out.bel)).mono ?_); rintro e w1 ⟨a', c', rfl, hsr, hs⟩; replace HS := Lib.hid hs; have HSR := Lib.hid hsr; clear hs hsr)
        | (go_at_call 25; (with_reducible refine (lineAn _ _ nn _ zn HS.out HSR.out hnn (by decide) (by omega)).mono ?_); rintro e w1 ⟨rfl, hs⟩; replace HS := Lib.hid hs; clear hs HSR; have m0 := HC3.out _ _ _ HS.out 0 _ rfl; have m1 := HC3.out _ _ _ HS.out 1 _ rfl; have m2 := HC3.out _ _ _ HS.out 2 _ rfl; have m3 := HC3.out _ _ _ HS.out 3 _ rfl; have m4 := HC3.out _ _ _ HS.out 4 _ rfl; have m5 := HC3.out _ _ _ HS.out 5 _ rfl; have m6 := HC3.out _ _ _ HS.out 6 _ rfl; have m7 := HC3.out _ _ _ HS.out 7 _ rfl)
        | (go_at_call 25; (with_reducible refine (lineF _ ro HS.out v0 v1 (by decide) (by omega)).mono ?_); rintro e w1 ⟨rfl, hs⟩; replace HS := Lib.hid hs; clear hs; have m0 := HC3.out _ _ _ HS.out 0 _ rfl; have m1 := HC3.out _ _ _ HS.out 1 _ rfl; have m2 := HC3.out _ _ _ HS.out 2 _ rfl; have m3 := HC3.out _ _ _ HS.out 3 _ rfl; have m4 := HC3.out _ _ _ HS.out 4 _ rfl; have m5 := HC3.out _ _ _ HS.out 5 _ rfl; have m6 := HC3.out _ _ _ HS.out 6 _ rfl; have m7 := HC3.out _ _ _ HS.out 7 _ rfl)
        | (go_at_call 25; (with_reducible refine (lineA _ _ HS.out (by decide) (by omega)).mono ?_); rintro e w1 ⟨rfl, hs⟩; replace HS := Lib.hid hs; clear hs; have m0 := HC3.out _ _ _ HS.out 0 _ rfl; have m1 := HC3.out _ _ _ HS.out 1 _ rfl; have m2 := HC3.out _ _ _ HS.out 2 _ rfl; have m3 := HC3.out _ _ _ HS.out 3 _ rfl; have m4 := HC3.out _ _ _ HS.out 4 _ rfl; have m5 := HC3.out _ _ _ HS.out 5 _ rfl; have m6 := HC3.out _ _ _ HS.out 6 _ rfl; have m7 := HC3.out _ _ _ HS.out 7 _ rfl)
        | (go_at_call 28; refine (st_any _ _ _ _ HS.out.1 (by simp [ln_ne])).mono ?_; rintro e w1 ⟨rfl, hs⟩; have HZZ := Lib.hid (HS.out.bel.trans (hs.mono HS.out.2.2.2.1)); clear hs))
      go_ret
      exact ⟨ret_str (by unfold drwT tailT; rfl), HZZ.out⟩
end Go.Proofs.YtgmilhhifigkkaaDoor
