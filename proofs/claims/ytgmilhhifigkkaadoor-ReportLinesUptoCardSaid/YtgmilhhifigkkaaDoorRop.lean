/- The law ReportLines: its walk. -/
import Derived.Test.YtgmilhhifigkkaaDoorRoo
namespace Go.Proofs.YtgmilhhifigkkaaDoor
open Go.ChangeShapes Go.WideShapes Go.ChangeAt Go.RowKit Go.Lott
open Go.Lott.Mny Go.Lott.Rp
/-- The three boxes, in every world that is the same below them. -/
theorem rl_boxes {w V : World} {g r a : Array Value} {T1 T2 T3 : TypeId} (h : V = ((w.alloc (.cells g T1)).alloc (.cells r T2)).alloc (.cells a T3)) (y : World) (hy : Below V.heap.size V y) :
    Cel y w.heap.size g T1 ∧ Cel y (w.heap.size + 1) r T2 ∧ Cel y (w.heap.size + 1 + 1) a T3 := by
  subst h
  have e1 : (w.alloc (.cells g T1)).heap.size = w.heap.size + 1 := by simp
  have e2 : ((w.alloc (.cells g T1)).alloc (.cells r T2)).heap.size = w.heap.size + 1 + 1 := by simp
  have c1 := ((Cel.new w g T1).alloc (.cells r T2)).alloc (.cells a T3)
  have c2 := (Cel.new (w.alloc (.cells g T1)) r T2).alloc (.cells a T3)
  have c3 := Cel.new ((w.alloc (.cells g T1)).alloc (.cells r T2)) a T3
  rw [e1] at c2
  rw [e2] at c3
  exact ⟨c1.below hy c1.lt, c2.below hy c2.lt, c3.below hy c3.lt⟩
theorem lines_at (s : ByteArray) (k : Int) (hk : (lnc s.data.toList : Int) = k) (hs : s.size ≤ 9223372036854775807) (w : World) : Calls Tryd.prog 23 #[.string s] w (RetS (.int .i64 k) w) := hk ▸ lines_any s w hs
set_option maxHeartbeats 8000000 in
set_option maxRecDepth 100000 in
theorem reportLines_no (gn : ByteArray) (y : Nat → Int) (p1 : Option Addr) (q1 r1 : Nat) (p2 : Option Addr) (q2 r2 : Nat) (n : Int) (a1 : Option Addr) (n1 c1 : Nat) (a2 : Option Addr) (n2 c2 : Nat) (a3 : Option Addr) (n3 c3 : Nat) (f : Int) (s : ByteArray) (ac : Option Addr) (nc cc : Nat) (ae : Option Addr) (ne ce : Nat) (ap : Option Addr) (np cp : Nat) (br dr : Int) (an : Option Addr) (nn cn : Nat) (rs ro : Int) (w : World) (hgn : gn.size ≤ 2000000) (hs : s.size ≤ 2000000) (hp : P10 w) (hm : ¬ (smB n1 n2 n3 nc nn = true ∧ lnc gn.data.toList = 0 ∧ lnc s.data.toList = 0)) :
    Calls Tryd.prog 8 #[.agg #[.string gn, .int .i64 (y 1), .int .i64 (y 2), .int .i64 (y 3), .int .i64 (y 4), .int .i64 (y 5), .int .i64 (y 6), .int .i64 (y 7), .int .i64 (y 8), .int .i64 (y 9), .int .i64 (y 10), .int .i64 (y 11), .int .i64 (y 12), .int .i64 (y 13), .int .i64 (y 14), .int .i64 (y 15), .int .i64 (y 16), .int .i64 (y 17), .int .i64 (y 18), .int .i64 (y 19), .slice p1 q1 r1, .slice p2 q2 r2], .int .i64 n, .agg #[.slice a1 n1 c1, .slice a2 n2 c2, .slice a3 n3 c3, .int .i64 f, .string s], .agg #[.slice ac nc cc, .slice ae ne ce, .slice ap np cp, .int .i64 br, .int .i64 dr, .slice an nn cn, .int .i64 rs, .int .i64 ro]] w (RetB (.bool true) w) := by
  obtain ⟨V, hV⟩ : ∃ V : World, V = ((w.alloc (.cells #[.string gn, .int .i64 (y 1), .int .i64 (y 2), .int .i64 (y 3), .int .i64 (y 4), .int .i64 (y 5), .int .i64 (y 6), .int .i64 (y 7), .int .i64 (y 8), .int .i64 (y 9), .int .i64 (y 10), .int .i64 (y 11), .int .i64 (y 12), .int .i64 (y 13), .int .i64 (y 14), .int .i64 (y 15), .int .i64 (y 16), .int .i64 (y 17), .int .i64 (y 18), .int .i64 (y 19), .slice p1 q1 r1, .slice p2 q2 r2] 41)).alloc (.cells #[.slice a1 n1 c1, .slice a2 n2 c2, .slice a3 n3 c3, .int .i64 f, .string s] 43)).alloc (.cells #[.slice ac nc cc, .slice ae ne ce, .slice ap np cp, .int .i64 br, .int .i64 dr, .slice an nn cn, .int .i64 rs, .int .i64 ro] 47) := ⟨_, rfl⟩
  obtain ⟨hG, hR, hA, hBV⟩ := rd_cells hV
  have HBV := Lib.hid hBV
  have HW := Lib.hid hV
  have HX := Lib.hid (Below.refl V.heap.size V)
  have hx : ∀ y, Below V.heap.size V y → Below w.heap.size w y := fun y h => hBV.trans (h.mono hBV.size)
  have HD3 := Lib.hid fun y (h : Below V.heap.size V y) => draws_any y (hp.grow (hx y h))
  have HC := Lib.hid fun y (h : Below V.heap.size V y) => (⟨hG y h 0 _ rfl, hR y h 0 _ rfl, hR y h 1 _ rfl, hR y h 2 _ rfl, hR y h 3 _ rfl, hR y h 4 _ rfl⟩ :
    y.cell? ⟨w.heap.size, 0, none⟩ = some (.string gn) ∧ y.cell? ⟨w.heap.size + 1, 0, none⟩ = some (.slice a1 n1 c1) ∧ y.cell? ⟨w.heap.size + 1, 1, none⟩ = some (.slice a2 n2 c2) ∧ y.cell? ⟨w.heap.size + 1, 2, none⟩ = some (.slice a3 n3 c3) ∧ y.cell? ⟨w.heap.size + 1, 3, none⟩ = some (.int .i64 f) ∧ y.cell? ⟨w.heap.size + 1, 4, none⟩ = some (.string s))
  have HA := Lib.hid fun y (h : Below V.heap.size V y) => (⟨hA y h 0 _ rfl, hA y h 1 _ rfl, hA y h 2 _ rfl, hA y h 3 _ rfl, hA y h 4 _ rfl, hA y h 5 _ rfl, hA y h 6 _ rfl, hA y h 7 _ rfl⟩ :
    y.cell? ⟨w.heap.size + 1 + 1, 0, none⟩ = some (.slice ac nc cc) ∧ y.cell? ⟨w.heap.size + 1 + 1, 1, none⟩ = some (.slice ae ne ce) ∧ y.cell? ⟨w.heap.size + 1 + 1, 2, none⟩ = some (.slice ap np cp) ∧ y.cell? ⟨w.heap.size + 1 + 1, 3, none⟩ = some (.int .i64 br) ∧ y.cell? ⟨w.heap.size + 1 + 1, 4, none⟩ = some (.int .i64 dr) ∧ y.cell? ⟨w.heap.size + 1 + 1, 5, none⟩ = some (.slice an nn cn) ∧ y.cell? ⟨w.heap.size + 1 + 1, 6, none⟩ = some (.int .i64 rs) ∧ y.cell? ⟨w.heap.size + 1 + 1, 7, none⟩ = some (.int .i64 ro))
  have HS := Lib.hid (small_at a1 n1 c1 a2 n2 c2 a3 n3 c3 f s ac nc cc ae ne ce ap np cp br dr an nn cn rs ro _ rfl)
  clear hG hR hA hBV hV hx hp
  cases h1 : smB n1 n2 n3 nc nn with
  | false =>
    rw [h1] at HS
    clear hm h1
    go_enter Tryd.func8, Tryd.ntmps8
    go_wp2_with fail
    rw [← HW.out]
    obtain ⟨d0, d1, d2, d3, d4, d5⟩ := HC.out _ HX.out
    obtain ⟨m0, m1, m2, m3, m4, m5, m6, m7⟩ := HA.out _ HX.out
    go_wp2_with (first | (go_at_call 19; (with_reducible refine (HS.out _).mono ?_); rintro e w1 ⟨rfl, hb1⟩; replace HX := Lib.hid (HX.out.trans (hb1.mono HX.out.size)); clear hb1; obtain ⟨d0, d1, d2, d3, d4, d5⟩ := HC.out _ HX.out; obtain ⟨m0, m1, m2, m3, m4, m5, m6, m7⟩ := HA.out _ HX.out) | (go_at_call 20; (with_reducible refine (HD3.out _ HX.out).mono ?_); rintro e w1 ⟨rfl, hb1⟩; replace HX := Lib.hid (HX.out.trans (hb1.mono HX.out.size)); clear hb1))
    go_ret
    exact ⟨rfl, HBV.out.trans (HX.out.mono HBV.out.size)⟩
  | true =>
    rw [h1] at HS
    by_cases h2 : lnc gn.data.toList = 0
    · have h3 : lnc s.data.toList ≠ 0 := fun c => hm ⟨h1, h2, c⟩
      obtain ⟨K, hK⟩ : ∃ K : Int, (lnc s.data.toList : Int) = K := ⟨_, rfl⟩
      have hK0 : 0 < K := by omega
      have HL1 := Lib.hid (lines_at gn 0 (by rw [h2]; rfl) (by omega))
      have HL2 := Lib.hid (lines_at s K hK (by omega))
      clear hm h1 h2 h3 hK
      go_enter Tryd.func8, Tryd.ntmps8
      go_wp2_with fail
      rw [← HW.out]
      obtain ⟨d0, d1, d2, d3, d4, d5⟩ := HC.out _ HX.out
      obtain ⟨m0, m1, m2, m3, m4, m5, m6, m7⟩ := HA.out _ HX.out
      go_wp2_with (first | (go_at_call 19; (with_reducible refine (HS.out _).mono ?_); rintro e w1 ⟨rfl, hb1⟩; replace HX := Lib.hid (HX.out.trans (hb1.mono HX.out.size)); clear hb1; obtain ⟨d0, d1, d2, d3, d4, d5⟩ := HC.out _ HX.out; obtain ⟨m0, m1, m2, m3, m4, m5, m6, m7⟩ := HA.out _ HX.out) | (go_at_call 23; (with_reducible refine (HL1.out _).mono ?_); rintro e w' ⟨rfl, rfl⟩) | (go_at_call 23; (with_reducible refine (HL2.out _).mono ?_); rintro e w' ⟨rfl, rfl⟩) | (go_at_call 20; (with_reducible refine (HD3.out _ HX.out).mono ?_); rintro e w1 ⟨rfl, hb1⟩; replace HX := Lib.hid (HX.out.trans (hb1.mono HX.out.size)); clear hb1))
      go_ret
      exact ⟨rfl, HBV.out.trans (HX.out.mono HBV.out.size)⟩
    · obtain ⟨K, hK⟩ : ∃ K : Int, (lnc gn.data.toList : Int) = K := ⟨_, rfl⟩
      have hK0 : 0 < K := by omega
      have HL1 := Lib.hid (lines_at gn K hK (by omega))
      clear hm h1 h2 hK
      go_enter Tryd.func8, Tryd.ntmps8
      go_wp2_with fail
      rw [← HW.out]
      obtain ⟨d0, d1, d2, d3, d4, d5⟩ := HC.out _ HX.out
      obtain ⟨m0, m1, m2, m3, m4, m5, m6, m7⟩ := HA.out _ HX.out
      go_wp2_with (first | (go_at_call 19; (with_reducible refine (HS.out _).mono ?_); rintro e w1 ⟨rfl, hb1⟩; replace HX := Lib.hid (HX.out.trans (hb1.mono HX.out.size)); clear hb1; obtain ⟨d0, d1, d2, d3, d4, d5⟩ := HC.out _ HX.out; obtain ⟨m0, m1, m2, m3, m4, m5, m6, m7⟩ := HA.out _ HX.out) | (go_at_call 23; (with_reducible refine (HL1.out _).mono ?_); rintro e w' ⟨rfl, rfl⟩) | (go_at_call 20; (with_reducible refine (HD3.out _ HX.out).mono ?_); rintro e w1 ⟨rfl, hb1⟩; replace HX := Lib.hid (HX.out.trans (hb1.mono HX.out.size)); clear hb1))
      go_ret
      exact ⟨rfl, HBV.out.trans (HX.out.mono HBV.out.size)⟩
theorem last_idx (t : ByteArray) (l : List UInt8) (h : t.data.toList = l ++ [10]) (h0 : t.size - 1 < t.size) : t[t.size - 1].toNat = 10 := by
  have hl : t.data.toList.length = t.size := by simp
  have e : t.size = l.length + 1 := by rw [← hl, h]; simp
  have e2 : t.data.toList[t.size - 1]'(by simpa using h0) = t[t.size - 1] := rfl
  rw [← e2]
  simp only [h, e]
  simp
theorem b2i_sum (a b c d : Bool) : wrap64 (wrap64 (wrap64 (b2i a + b2i b) + b2i c) + b2i d) = b2i a + b2i b + b2i c + b2i d := by
  have ha := b2i_bd a
  have hb := b2i_bd b
  have hc := b2i_bd c
  have hd := b2i_bd d
  have w1 : ∀ x : Int, 0 ≤ x → x ≤ 4 → wrap64 x = x := fun x h0 h1 => by unfold wrap64; omega
  rw [w1 (b2i a + b2i b) (by omega) (by omega), w1 (b2i a + b2i b + b2i c) (by omega) (by omega), w1 (b2i a + b2i b + b2i c + b2i d) (by omega) (by omega)]
theorem b2i_sum_bd (a b c d : Bool) : 0 ≤ b2i a + b2i b + b2i c + b2i d ∧ b2i a + b2i b + b2i c + b2i d ≤ 4 := by cases a <;> cases b <;> cases c <;> cases d <;> decide
theorem b2i_f (f : Int) : b2i (f != 0) = b2i (!decide (f = 0)) := by
  by_cases h : f = 0
  · subst h; rfl
  · rw [bne_iff_ne.2 h, decide_eq_false h]; rfl
theorem b2i_s (s : ByteArray) : b2i (!s.toList.isEmpty) = b2i (!decide (s.data.toList = [])) := by
  have e : s.toList = s.data.toList := by first | exact ByteArray.toList_eq s | exact Go.ByteArray.toList_eq s | exact Go.Lib.ByteArray.toList_eq s
  rw [e]
  cases s.data.toList <;> rfl
set_option maxHeartbeats 8000000 in
set_option maxRecDepth 100000 in
theorem reportLines_yes (gn : ByteArray) (y : Nat → Int) (p1 : Option Addr) (q1 r1 : Nat) (p2 : Option Addr) (q2 r2 : Nat) (n : Int) (a1 : Option Addr) (n1 c1 : Nat) (z1 : Nat → Int) (a2 : Option Addr) (n2 c2 : Nat) (z2 : Nat → Int) (a3 : Option Addr) (n3 c3 : Nat) (z3 : Nat → Int) (f : Int) (s : ByteArray) (ac : Option Addr) (nc cc : Nat) (zc : Nat → Int) (ae : Option Addr) (ne ce : Nat) (ze : Nat → Int) (ap : Option Addr) (np cp : Nat) (zp : Nat → Int) (br dr : Int) (an : Option Addr) (nn cn : Nat) (zn : Nat → Int) (rs ro : Int) (w : World) (hgn : gn.size ≤ 2000000) (hn : I64 n) (hr1 : NRow w a1 n1 z1) (hr2 : NRow w a2 n2 z2) (hr3 : NRow w a3 n3 z3) (hf : I64 f) (hs : s.size ≤ 2000000) (hrc : NRow w ac nc zc) (hre : NRow w ae ne ze) (hrp : NRow w ap np zp) (hbr : I64 br) (hdr : I64 dr) (hrn : NRow w an nn zn) (hrs : I64 rs) (hro : I64 ro) (hp : P10 w) (hm : smB n1 n2 n3 nc nn = true) (hg0 : lnc gn.data.toList = 0) (hs0 : lnc s.data.toList = 0) :
    Calls Tryd.prog 8 #[.agg #[.string gn, .int .i64 (y 1), .int .i64 (y 2), .int .i64 (y 3), .int .i64 (y 4), .int .i64 (y 5), .int .i64 (y 6), .int .i64 (y 7), .int .i64 (y 8), .int .i64 (y 9), .int .i64 (y 10), .int .i64 (y 11), .int .i64 (y 12), .int .i64 (y 13), .int .i64 (y 14), .int .i64 (y 15), .int .i64 (y 16), .int .i64 (y 17), .int .i64 (y 18), .int .i64 (y 19), .slice p1 q1 r1, .slice p2 q2 r2], .int .i64 n, .agg #[.slice a1 n1 c1, .slice a2 n2 c2, .slice a3 n3 c3, .int .i64 f, .string s], .agg #[.slice ac nc cc, .slice ae ne ce, .slice ap np cp, .int .i64 br, .int .i64 dr, .slice an nn cn, .int .i64 rs, .int .i64 ro]] w (RetB (.bool true) w) := by
  obtain ⟨V, hV⟩ : ∃ V : World, V = ((w.alloc (.cells #[.string gn, .int .i64 (y 1), .int .i64 (y 2), .int .i64 (y 3), .int .i64 (y 4), .int .i64 (y 5), .int .i64 (y 6), .int .i64 (y 7), .int .i64 (y 8), .int .i64 (y 9), .int .i64 (y 10), .int .i64 (y 11), .int .i64 (y 12), .int .i64 (y 13), .int .i64 (y 14), .int .i64 (y 15), .int .i64 (y 16), .int .i64 (y 17), .int .i64 (y 18), .int .i64 (y 19), .slice p1 q1 r1, .slice p2 q2 r2] 41)).alloc (.cells #[.slice a1 n1 c1, .slice a2 n2 c2, .slice a3 n3 c3, .int .i64 f, .string s] 43)).alloc (.cells #[.slice ac nc cc, .slice ae ne ce, .slice ap np cp, .int .i64 br, .int .i64 dr, .slice an nn cn, .int .i64 rs, .int .i64 ro] 47) := ⟨_, rfl⟩
  obtain ⟨hG, hR, hA, hBV⟩ := rd_cells hV
  have HBV := Lib.hid hBV
  have HW := Lib.hid hV
  have HX := Lib.hid (Below.refl V.heap.size V)
  have hx : ∀ y, Below V.heap.size V y → Below w.heap.size w y := fun y h => hBV.trans (h.mono hBV.size)
  have HD3 := Lib.hid fun y (h : Below V.heap.size V y) => draws_any y (hp.grow (hx y h))
  have HC := Lib.hid fun y (h : Below V.heap.size V y) => (⟨hG y h 0 _ rfl, hR y h 0 _ rfl, hR y h 1 _ rfl, hR y h 2 _ rfl, hR y h 3 _ rfl, hR y h 4 _ rfl⟩ :
    y.cell? ⟨w.heap.size, 0, none⟩ = some (.string gn) ∧ y.cell? ⟨w.heap.size + 1, 0, none⟩ = some (.slice a1 n1 c1) ∧ y.cell? ⟨w.heap.size + 1, 1, none⟩ = some (.slice a2 n2 c2) ∧ y.cell? ⟨w.heap.size + 1, 2, none⟩ = some (.slice a3 n3 c3) ∧ y.cell? ⟨w.heap.size + 1, 3, none⟩ = some (.int .i64 f) ∧ y.cell? ⟨w.heap.size + 1, 4, none⟩ = some (.string s))
  have HA := Lib.hid fun y (h : Below V.heap.size V y) => (⟨hA y h 0 _ rfl, hA y h 1 _ rfl, hA y h 2 _ rfl, hA y h 3 _ rfl, hA y h 4 _ rfl, hA y h 5 _ rfl, hA y h 6 _ rfl, hA y h 7 _ rfl⟩ :
    y.cell? ⟨w.heap.size + 1 + 1, 0, none⟩ = some (.slice ac nc cc) ∧ y.cell? ⟨w.heap.size + 1 + 1, 1, none⟩ = some (.slice ae ne ce) ∧ y.cell? ⟨w.heap.size + 1 + 1, 2, none⟩ = some (.slice ap np cp) ∧ y.cell? ⟨w.heap.size + 1 + 1, 3, none⟩ = some (.int .i64 br) ∧ y.cell? ⟨w.heap.size + 1 + 1, 4, none⟩ = some (.int .i64 dr) ∧ y.cell? ⟨w.heap.size + 1 + 1, 5, none⟩ = some (.slice an nn cn) ∧ y.cell? ⟨w.heap.size + 1 + 1, 6, none⟩ = some (.int .i64 rs) ∧ y.cell? ⟨w.heap.size + 1 + 1, 7, none⟩ = some (.int .i64 ro))
  have HGG := Lib.hid (rl_boxes hV)
  have HS := Lib.hid (small_at a1 n1 c1 a2 n2 c2 a3 n3 c3 f s ac nc cc ae ne ce ap np cp br dr an nn cn rs ro _ hm)
  obtain ⟨k1, k2, k3, k4, k5⟩ := smB_yes hm
  have HL1 := Lib.hid (lines_at gn 0 (by rw [hg0]; rfl) (by omega))
  have HL2 := Lib.hid (lines_at s 0 (by rw [hs0]; rfl) (by omega))
  have HD1 := Lib.hid fun yy (h : Below V.heap.size V yy) => draw_any gn y p1 q1 r1 p2 q2 r2 n a1 n1 c1 z1 a2 n2 c2 z2 a3 n3 c3 z3 f s ac nc cc zc ae ne ce ze ap np cp zp br dr an nn cn zn rs ro yy hgn hn (hr1.below (hx yy h)) (hr2.below (hx yy h)) (hr3.below (hx yy h)) hf hs (hrc.below (hx yy h)) (hre.below (hx yy h)) (hrp.below (hx yy h)) hbr hdr (hrn.below (hx yy h)) hrs hro k1 k2 k3 k4 k5 (hp.grow (hx yy h))
  obtain ⟨tx, htx⟩ : ∃ t : ByteArray, t = ⟨(drwT gn.data.toList n n1 z1 n2 z2 n3 z3 f s.data.toList (min (min nc ne) np) zc ze zp br dr nn zn rs ro).toArray⟩ := ⟨_, rfl⟩
  have htl : tx.data.toList = drwT gn.data.toList n n1 z1 n2 z2 n3 z3 f s.data.toList (min (min nc ne) np) zc ze zp br dr nn zn rs ro := by rw [htx]
  have hts : tx.size ≤ 9000000 := by
    have h1 := drwT_len (gn := gn.data.toList) (s := s.data.toList) (by simpa using hgn) (by simpa using hs) hn k1 hr1.2 k2 hr2.2 k3 hr3.2 hf (k := min (min nc ne) np) (by omega) (fun i hi => hrc.2 i (by omega)) ze zp br dr k5 zn rs hro
    rw [← htl] at h1
    simpa using h1
  obtain ⟨l, hl⟩ := drwT_last gn.data.toList s.data.toList n n1 z1 n2 z2 n3 z3 f (min (min nc ne) np) zc ze zp br dr nn zn rs ro
  rw [← htl] at hl
  have ht0 : 0 < tx.size := by
    have h1 : tx.data.toList.length = tx.size := by simp
    rw [hl] at h1; simp at h1; omega
  have ht1 := last_idx tx l hl (by omega)
  have htL := Lib.hid (drwT_lines hg0 hs0 n n1 z1 n2 z2 n3 z3 f (min (min nc ne) np) zc ze zp br dr nn zn rs ro)
  rw [← htl] at htL
  rw [← htx] at HD1
  have htc : ((tx[tx.size - 1].toNat : Int) == 10) = true := by rw [beq_iff_eq]; omega
  clear hm hG hR hA hBV hV hx hr1 hr2 hr3 hrc hre hrp hrn hn hf hbr hdr hrs hro hp htl hl ht1 htx l hg0 hs0
  by_cases h1 : ne < nc
  · have j1 : (ne : Int) < (nc : Int) := by omega
    by_cases h2 : np < ne
    · have j2 : (np : Int) < (ne : Int) := by omega
      have hT : min (min nc ne) np = np := by omega
      clear h1 h2
      have HQ := Lib.hid (show (lnc tx.data.toList : Int) = 7 + (np : Int) + (b2i (decide (0 < n2)) + b2i (decide (0 < n3)) + b2i (!decide (f = 0)) + b2i (!decide (s.data.toList = []))) by rw [htL.out, hT])
      clear hT
      go_enter Tryd.func8, Tryd.ntmps8
      go_wp2_with fail
      rw [← HW.out]
      obtain ⟨d0, d1, d2, d3, d4, d5⟩ := HC.out _ HX.out
      obtain ⟨m0, m1, m2, m3, m4, m5, m6, m7⟩ := HA.out _ HX.out
      go_wp2_with (first
        | (go_at_call 19; (with_reducible refine (HS.out _).mono ?_); rintro e w1 ⟨rfl, hb1⟩; replace HX := Lib.hid (HX.out.trans (hb1.mono HX.out.size)); clear hb1; obtain ⟨d0, d1, d2, d3, d4, d5⟩ := HC.out _ HX.out; obtain ⟨m0, m1, m2, m3, m4, m5, m6, m7⟩ := HA.out _ HX.out)
        | (go_at_call 23; (with_reducible refine (HL1.out _).mono ?_); rintro e w' ⟨rfl, rfl⟩) | ((go_at_call 23; (with_reducible refine (HL2.out _).mono ?_); rintro e w' ⟨rfl, rfl⟩); clear d0; have HG := Lib.hid (HGG.out _ HX.out).1)
        | (refine wpList_load_row rfl 41 _ rfl w.heap.size rfl _ _ _ _ HG.out Tryd.underlying41 rfl (by kernel_rfl) ?_)
        | (go_at_call 21; (with_reducible refine (HD1.out _ HX.out).mono ?_); rintro e w2 ⟨rfl, hb1⟩; replace HX := Lib.hid (HX.out.trans (hb1.mono HX.out.size)); clear hb1))
      clear d1 d2 d3 d4 d5 m0 m1 m2 m3 m4 m5 m6 m7 HG HA HD1 HGG
      have GC := Lib.hid fun x : Sub w2.heap.size w2 => HC.out x.w (HX.out.trans (x.h.mono HX.out.size))
      have g1 := fun x : Sub w2.heap.size w2 => (GC.out x).2.2.1
      have g2 := fun x : Sub w2.heap.size w2 => (GC.out x).2.2.2.1
      have g3 := fun x : Sub w2.heap.size w2 => (GC.out x).2.2.2.2.1
      have g4 := fun x : Sub w2.heap.size w2 => (GC.out x).2.2.2.2.2
      refine wp_region_below (by kernel_rfl) (by kernel_rfl) ?_
      repeat (go_big_quiet_step (((go_at_call 24; (with_reducible exact Sub.ofS _ (one_any _ _))))))
      refine wpQuiet_nil ?_
      rintro wx ⟨⟨_, hbx⟩, rfl⟩
      replace HX := Lib.hid (HX.out.trans (hbx.mono HX.out.size))
      rw [b2i_sum]
      have hM := b2i_sum_bd (decide (0 < n2)) (decide (0 < n3)) (f != 0) (!s.toList.isEmpty)
      rw [← b2i_f, ← b2i_s] at HQ
      generalize b2i (decide (0 < n2)) + b2i (decide (0 < n3)) + b2i (f != 0) + b2i (!s.toList.isEmpty) = M at HQ hM ⊢
      obtain ⟨M0, M4⟩ := hM
      have HL3 := Lib.hid (lines_at tx _ HQ.out (by omega))
      clear HQ htL hbx g1 g2 g3 g4 GC
      go_wp2_with (first | (go_at_call 23; (with_reducible refine (HL3.out _).mono ?_); rintro e w' ⟨rfl, rfl⟩) | (go_at_call 20; (with_reducible refine (HD3.out _ HX.out).mono ?_); rintro e w1 ⟨rfl, hb1⟩; replace HX := Lib.hid (HX.out.trans (hb1.mono HX.out.size)); clear hb1))
      go_ret
      exact ⟨rfl, HBV.out.trans (HX.out.mono HBV.out.size)⟩
    · have j2 : (ne : Int) ≤ (np : Int) := by omega
      have hT : min (min nc ne) np = ne := by omega
      clear h1 h2
      have HQ := Lib.hid (show (lnc tx.data.toList : Int) = 7 + (ne : Int) + (b2i (decide (0 < n2)) + b2i (decide (0 < n3)) + b2i (!decide (f = 0)) + b2i (!decide (s.data.toList = []))) by rw [htL.out, hT])
      clear hT
      go_enter Tryd.func8, Tryd.ntmps8
      go_wp2_with fail
      rw [← HW.out]
      obtain ⟨d0, d1, d2, d3, d4, d5⟩ := HC.out _ HX.out
      obtain ⟨m0, m1, m2, m3, m4, m5, m6, m7⟩ := HA.out _ HX.out
      go_wp2_with (first
        | (go_at_call 19; (with_reducible refine (HS.out _).mono ?_); rintro e w1 ⟨rfl, hb1⟩; replace HX := Lib.hid (HX.out.trans (hb1.mono HX.out.size)); clear hb1; obtain ⟨d0, d1, d2, d3, d4, d5⟩ := HC.out _ HX.out; obtain ⟨m0, m1, m2, m3, m4, m5, m6, m7⟩ := HA.out _ HX.out)
        | (go_at_call 23; (with_reducible refine (HL1.out _).mono ?_); rintro e w' ⟨rfl, rfl⟩) | ((go_at_call 23; (with_reducible refine (HL2.out _).mono ?_); rintro e w' ⟨rfl, rfl⟩); clear d0; have HG := Lib.hid (HGG.out _ HX.out).1)
        | (refine wpList_load_row rfl 41 _ rfl w.heap.size rfl _ _ _ _ HG.out Tryd.underlying41 rfl (by kernel_rfl) ?_)
        | (go_at_call 21; (with_reducible refine (HD1.out _ HX.out).mono ?_); rintro e w2 ⟨rfl, hb1⟩; replace HX := Lib.hid (HX.out.trans (hb1.mono HX.out.size)); clear hb1))
      clear d1 d2 d3 d4 d5 m0 m1 m2 m3 m4 m5 m6 m7 HG HA HD1 HGG
      have GC := Lib.hid fun x : Sub w2.heap.size w2 => HC.out x.w (HX.out.trans (x.h.mono HX.out.size))
      have g1 := fun x : Sub w2.heap.size w2 => (GC.out x).2.2.1
      have g2 := fun x : Sub w2.heap.size w2 => (GC.out x).2.2.2.1
      have g3 := fun x : Sub w2.heap.size w2 => (GC.out x).2.2.2.2.1
      have g4 := fun x : Sub w2.heap.size w2 => (GC.out x).2.2.2.2.2
      refine wp_region_below (by kernel_rfl) (by kernel_rfl) ?_
      repeat (go_big_quiet_step (((go_at_call 24; (with_reducible exact Sub.ofS _ (one_any _ _))))))
      refine wpQuiet_nil ?_
      rintro wx ⟨⟨_, hbx⟩, rfl⟩
      replace HX := Lib.hid (HX.out.trans (hbx.mono HX.out.size))
      rw [b2i_sum]
      have hM := b2i_sum_bd (decide (0 < n2)) (decide (0 < n3)) (f != 0) (!s.toList.isEmpty)
      rw [← b2i_f, ← b2i_s] at HQ
      generalize b2i (decide (0 < n2)) + b2i (decide (0 < n3)) + b2i (f != 0) + b2i (!s.toList.isEmpty) = M at HQ hM ⊢
      obtain ⟨M0, M4⟩ := hM
      have HL3 := Lib.hid (lines_at tx _ HQ.out (by omega))
      clear HQ htL hbx g1 g2 g3 g4 GC
      go_wp2_with (first | (go_at_call 23; (with_reducible refine (HL3.out _).mono ?_); rintro e w' ⟨rfl, rfl⟩) | (go_at_call 20; (with_reducible refine (HD3.out _ HX.out).mono ?_); rintro e w1 ⟨rfl, hb1⟩; replace HX := Lib.hid (HX.out.trans (hb1.mono HX.out.size)); clear hb1))
      go_ret
      exact ⟨rfl, HBV.out.trans (HX.out.mono HBV.out.size)⟩
  · have j1 : (nc : Int) ≤ (ne : Int) := by omega
    by_cases h2 : np < nc
    · have j2 : (np : Int) < (nc : Int) := by omega
      have hT : min (min nc ne) np = np := by omega
      clear h1 h2
      have HQ := Lib.hid (show (lnc tx.data.toList : Int) = 7 + (np : Int) + (b2i (decide (0 < n2)) + b2i (decide (0 < n3)) + b2i (!decide (f = 0)) + b2i (!decide (s.data.toList = []))) by rw [htL.out, hT])
      clear hT
      go_enter Tryd.func8, Tryd.ntmps8
      go_wp2_with fail
      rw [← HW.out]
      obtain ⟨d0, d1, d2, d3, d4, d5⟩ := HC.out _ HX.out
      obtain ⟨m0, m1, m2, m3, m4, m5, m6, m7⟩ := HA.out _ HX.out
      go_wp2_with (first
        | (go_at_call 19; (with_reducible refine (HS.out _).mono ?_); rintro e w1 ⟨rfl, hb1⟩; replace HX := Lib.hid (HX.out.trans (hb1.mono HX.out.size)); clear hb1; obtain ⟨d0, d1, d2, d3, d4, d5⟩ := HC.out _ HX.out; obtain ⟨m0, m1, m2, m3, m4, m5, m6, m7⟩ := HA.out _ HX.out)
        | (go_at_call 23; (with_reducible refine (HL1.out _).mono ?_); rintro e w' ⟨rfl, rfl⟩) | ((go_at_call 23; (with_reducible refine (HL2.out _).mono ?_); rintro e w' ⟨rfl, rfl⟩); clear d0; have HG := Lib.hid (HGG.out _ HX.out).1)
        | (refine wpList_load_row rfl 41 _ rfl w.heap.size rfl _ _ _ _ HG.out Tryd.underlying41 rfl (by kernel_rfl) ?_)
        | (go_at_call 21; (with_reducible refine (HD1.out _ HX.out).mono ?_); rintro e w2 ⟨rfl, hb1⟩; replace HX := Lib.hid (HX.out.trans (hb1.mono HX.out.size)); clear hb1))
      clear d1 d2 d3 d4 d5 m0 m1 m2 m3 m4 m5 m6 m7 HG HA HD1 HGG
      have GC := Lib.hid fun x : Sub w2.heap.size w2 => HC.out x.w (HX.out.trans (x.h.mono HX.out.size))
      have g1 := fun x : Sub w2.heap.size w2 => (GC.out x).2.2.1
      have g2 := fun x : Sub w2.heap.size w2 => (GC.out x).2.2.2.1
      have g3 := fun x : Sub w2.heap.size w2 => (GC.out x).2.2.2.2.1
      have g4 := fun x : Sub w2.heap.size w2 => (GC.out x).2.2.2.2.2
      refine wp_region_below (by kernel_rfl) (by kernel_rfl) ?_
      repeat (go_big_quiet_step (((go_at_call 24; (with_reducible exact Sub.ofS _ (one_any _ _))))))
      refine wpQuiet_nil ?_
      rintro wx ⟨⟨_, hbx⟩, rfl⟩
      replace HX := Lib.hid (HX.out.trans (hbx.mono HX.out.size))
      rw [b2i_sum]
      have hM := b2i_sum_bd (decide (0 < n2)) (decide (0 < n3)) (f != 0) (!s.toList.isEmpty)
      rw [← b2i_f, ← b2i_s] at HQ
      generalize b2i (decide (0 < n2)) + b2i (decide (0 < n3)) + b2i (f != 0) + b2i (!s.toList.isEmpty) = M at HQ hM ⊢
      obtain ⟨M0, M4⟩ := hM
      have HL3 := Lib.hid (lines_at tx _ HQ.out (by omega))
      clear HQ htL hbx g1 g2 g3 g4 GC
      go_wp2_with (first | (go_at_call 23; (with_reducible refine (HL3.out _).mono ?_); rintro e w' ⟨rfl, rfl⟩) | (go_at_call 20; (with_reducible refine (HD3.out _ HX.out).mono ?_); rintro e w1 ⟨rfl, hb1⟩; replace HX := Lib.hid (HX.out.trans (hb1.mono HX.out.size)); clear hb1))
      go_ret
      exact ⟨rfl, HBV.out.trans (HX.out.mono HBV.out.size)⟩
    · have j2 : (nc : Int) ≤ (np : Int) := by omega
      have hT : min (min nc ne) np = nc := by omega
      clear h1 h2
      have HQ := Lib.hid (show (lnc tx.data.toList : Int) = 7 + (nc : Int) + (b2i (decide (0 < n2)) + b2i (decide (0 < n3)) + b2i (!decide (f = 0)) + b2i (!decide (s.data.toList = []))) by rw [htL.out, hT])
      clear hT
      go_enter Tryd.func8, Tryd.ntmps8
      go_wp2_with fail
      rw [← HW.out]
      obtain ⟨d0, d1, d2, d3, d4, d5⟩ := HC.out _ HX.out
      obtain ⟨m0, m1, m2, m3, m4, m5, m6, m7⟩ := HA.out _ HX.out
      go_wp2_with (first
        | (go_at_call 19; (with_reducible refine (HS.out _).mono ?_); rintro e w1 ⟨rfl, hb1⟩; replace HX := Lib.hid (HX.out.trans (hb1.mono HX.out.size)); clear hb1; obtain ⟨d0, d1, d2, d3, d4, d5⟩ := HC.out _ HX.out; obtain ⟨m0, m1, m2, m3, m4, m5, m6, m7⟩ := HA.out _ HX.out)
        | (go_at_call 23; (with_reducible refine (HL1.out _).mono ?_); rintro e w' ⟨rfl, rfl⟩) | ((go_at_call 23; (with_reducible refine (HL2.out _).mono ?_); rintro e w' ⟨rfl, rfl⟩); clear d0; have HG := Lib.hid (HGG.out _ HX.out).1)
        | (refine wpList_load_row rfl 41 _ rfl w.heap.size rfl _ _ _ _ HG.out Tryd.underlying41 rfl (by kernel_rfl) ?_)
        | (go_at_call 21; (with_reducible refine (HD1.out _ HX.out).mono ?_); rintro e w2 ⟨rfl, hb1⟩; replace HX := Lib.hid (HX.out.trans (hb1.mono HX.out.size)); clear hb1))
      clear d1 d2 d3 d4 d5 m0 m1 m2 m3 m4 m5 m6 m7 HG HA HD1 HGG
      have GC := Lib.hid fun x : Sub w2.heap.size w2 => HC.out x.w (HX.out.trans (x.h.mono HX.out.size))
      have g1 := fun x : Sub w2.heap.size w2 => (GC.out x).2.2.1
      have g2 := fun x : Sub w2.heap.size w2 => (GC.out x).2.2.2.1
      have g3 := fun x : Sub w2.heap.size w2 => (GC.out x).2.2.2.2.1
      have g4 := fun x : Sub w2.heap.size w2 => (GC.out x).2.2.2.2.2
      refine wp_region_below (by kernel_rfl) (by kernel_rfl) ?_
      repeat (go_big_quiet_step (((go_at_call 24; (with_reducible exact Sub.ofS _ (one_any _ _))))))
      refine wpQuiet_nil ?_
      rintro wx ⟨⟨_, hbx⟩, rfl⟩
      replace HX := Lib.hid (HX.out.trans (hbx.mono HX.out.size))
      rw [b2i_sum]
      have hM := b2i_sum_bd (decide (0 < n2)) (decide (0 < n3)) (f != 0) (!s.toList.isEmpty)
      rw [← b2i_f, ← b2i_s] at HQ
      generalize b2i (decide (0 < n2)) + b2i (decide (0 < n3)) + b2i (f != 0) + b2i (!s.toList.isEmpty) = M at HQ hM ⊢
      obtain ⟨M0, M4⟩ := hM
      have HL3 := Lib.hid (lines_at tx _ HQ.out (by omega))
      clear HQ htL hbx g1 g2 g3 g4 GC
      go_wp2_with (first | (go_at_call 23; (with_reducible refine (HL3.out _).mono ?_); rintro e w' ⟨rfl, rfl⟩) | (go_at_call 20; (with_reducible refine (HD3.out _ HX.out).mono ?_); rintro e w1 ⟨rfl, hb1⟩; replace HX := Lib.hid (HX.out.trans (hb1.mono HX.out.size)); clear hb1))
      go_ret
      exact ⟨rfl, HBV.out.trans (HX.out.mono HBV.out.size)⟩
end Go.Proofs.YtgmilhhifigkkaaDoor
