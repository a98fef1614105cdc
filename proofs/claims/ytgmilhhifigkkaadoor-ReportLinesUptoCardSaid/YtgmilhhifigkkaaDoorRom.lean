/- The law ReportDraws: its walk. -/
import Derived.Test.YtgmilhhifigkkaaDoorRol
import Derived.Deep.RegionHeld3
import Derived.Deep.MidRow
import Derived.Deep.DrawnRows
namespace Go.Proofs.YtgmilhhifigkkaaDoor
open Go.ChangeShapes Go.WideShapes Go.ChangeAt Go.RowKit Go.Lott
open Go.Lott.Mny Go.Lott.Rp
/-- Is a draw small? -/
def smB (n1 n2 n3 nc nn : Nat) : Bool := decide (n1 ≤ 50 ∧ n2 ≤ 50 ∧ n3 ≤ 50 ∧ nc ≤ 50 ∧ nn ≤ 50)
theorem smB_yes {n1 n2 n3 nc nn : Nat} (h : smB n1 n2 n3 nc nn = true) : n1 ≤ 50 ∧ n2 ≤ 50 ∧ n3 ≤ 50 ∧ nc ≤ 50 ∧ nn ≤ 50 := of_decide_eq_true (p := n1 ≤ 50 ∧ n2 ≤ 50 ∧ n3 ≤ 50 ∧ nc ≤ 50 ∧ nn ≤ 50) h
set_option maxHeartbeats 2000000 in
set_option maxRecDepth 100000 in
theorem small_any (a1 : Option Addr) (n1 c1 : Nat) (a2 : Option Addr) (n2 c2 : Nat) (a3 : Option Addr) (n3 c3 : Nat) (f : Int) (s : ByteArray) (ac : Option Addr) (nc cc : Nat) (ae : Option Addr) (ne ce : Nat) (ap : Option Addr) (np cp : Nat) (br dr : Int) (an : Option Addr) (nn cn : Nat) (rs ro : Int) (w : World) : Calls Tryd.prog 19 #[.agg #[.slice a1 n1 c1, .slice a2 n2 c2, .slice a3 n3 c3, .int .i64 f, .string s], .agg #[.slice ac nc cc, .slice ae ne ce, .slice ap np cp, .int .i64 br, .int .i64 dr, .slice an nn cn, .int .i64 rs, .int .i64 ro]] w (RetB (.bool (smB n1 n2 n3 nc nn)) w) := by
  by_cases h0 : n1 ≤ 50
  · have j0 : (n1 : Int) ≤ 50 := by omega
    by_cases h1 : n2 ≤ 50
    · have j1 : (n2 : Int) ≤ 50 := by omega
      by_cases h2 : n3 ≤ 50
      · have j2 : (n3 : Int) ≤ 50 := by omega
        by_cases h3 : nc ≤ 50
        · have j3 : (nc : Int) ≤ 50 := by omega
          by_cases h4 : nn ≤ 50
          · have j4 : (nn : Int) ≤ 50 := by omega
            have HV := Lib.hid (show true = smB n1 n2 n3 nc nn from (decide_eq_true (p := n1 ≤ 50 ∧ n2 ≤ 50 ∧ n3 ≤ 50 ∧ nc ≤ 50 ∧ nn ≤ 50) (by omega)).symm)
            go_enter Tryd.func19, Tryd.ntmps19
            go_wp2
            go_ret
            exact ⟨ret_bool (by first | exact HV.out | (rw [← HV.out]; exact decide_eq_false (by omega)) | (rw [← HV.out]; exact decide_eq_true (by omega))), ((Below.refl _ _).alloc (Nat.le_refl _) _).alloc (by simp) _⟩
          · have j4 : (50 : Int) < (nn : Int) := by omega
            have HV := Lib.hid (show false = smB n1 n2 n3 nc nn from (decide_eq_false (p := n1 ≤ 50 ∧ n2 ≤ 50 ∧ n3 ≤ 50 ∧ nc ≤ 50 ∧ nn ≤ 50) (by omega)).symm)
            go_enter Tryd.func19, Tryd.ntmps19
            go_wp2
            go_ret
            exact ⟨ret_bool (by first | exact HV.out | (rw [← HV.out]; exact decide_eq_false (by omega)) | (rw [← HV.out]; exact decide_eq_true (by omega))), ((Below.refl _ _).alloc (Nat.le_refl _) _).alloc (by simp) _⟩
        · have j3 : (50 : Int) < (nc : Int) := by omega
          have HV := Lib.hid (show false = smB n1 n2 n3 nc nn from (decide_eq_false (p := n1 ≤ 50 ∧ n2 ≤ 50 ∧ n3 ≤ 50 ∧ nc ≤ 50 ∧ nn ≤ 50) (by omega)).symm)
          go_enter Tryd.func19, Tryd.ntmps19
          go_wp2
          go_ret
          exact ⟨ret_bool (by first | exact HV.out | (rw [← HV.out]; exact decide_eq_false (by omega)) | (rw [← HV.out]; exact decide_eq_true (by omega))), ((Below.refl _ _).alloc (Nat.le_refl _) _).alloc (by simp) _⟩
      · have j2 : (50 : Int) < (n3 : Int) := by omega
        have HV := Lib.hid (show false = smB n1 n2 n3 nc nn from (decide_eq_false (p := n1 ≤ 50 ∧ n2 ≤ 50 ∧ n3 ≤ 50 ∧ nc ≤ 50 ∧ nn ≤ 50) (by omega)).symm)
        go_enter Tryd.func19, Tryd.ntmps19
        go_wp2
        go_ret
        exact ⟨ret_bool (by first | exact HV.out | (rw [← HV.out]; exact decide_eq_false (by omega)) | (rw [← HV.out]; exact decide_eq_true (by omega))), ((Below.refl _ _).alloc (Nat.le_refl _) _).alloc (by simp) _⟩
    · have j1 : (50 : Int) < (n2 : Int) := by omega
      have HV := Lib.hid (show false = smB n1 n2 n3 nc nn from (decide_eq_false (p := n1 ≤ 50 ∧ n2 ≤ 50 ∧ n3 ≤ 50 ∧ nc ≤ 50 ∧ nn ≤ 50) (by omega)).symm)
      go_enter Tryd.func19, Tryd.ntmps19
      go_wp2
      go_ret
      exact ⟨ret_bool (by first | exact HV.out | (rw [← HV.out]; exact decide_eq_false (by omega)) | (rw [← HV.out]; exact decide_eq_true (by omega))), ((Below.refl _ _).alloc (Nat.le_refl _) _).alloc (by simp) _⟩
  · have j0 : (50 : Int) < (n1 : Int) := by omega
    have HV := Lib.hid (show false = smB n1 n2 n3 nc nn from (decide_eq_false (p := n1 ≤ 50 ∧ n2 ≤ 50 ∧ n3 ≤ 50 ∧ nc ≤ 50 ∧ nn ≤ 50) (by omega)).symm)
    go_enter Tryd.func19, Tryd.ntmps19
    go_wp2
    go_ret
    exact ⟨ret_bool (by first | exact HV.out | (rw [← HV.out]; exact decide_eq_false (by omega)) | (rw [← HV.out]; exact decide_eq_true (by omega))), ((Below.refl _ _).alloc (Nat.le_refl _) _).alloc (by simp) _⟩
theorem small_at (a1 : Option Addr) (n1 c1 : Nat) (a2 : Option Addr) (n2 c2 : Nat) (a3 : Option Addr) (n3 c3 : Nat) (f : Int) (s : ByteArray) (ac : Option Addr) (nc cc : Nat) (ae : Option Addr) (ne ce : Nat) (ap : Option Addr) (np cp : Nat) (br dr : Int) (an : Option Addr) (nn cn : Nat) (rs ro : Int) (v : Bool) (h : smB n1 n2 n3 nc nn = v) (w : World) : Calls Tryd.prog 19 #[.agg #[.slice a1 n1 c1, .slice a2 n2 c2, .slice a3 n3 c3, .int .i64 f, .string s], .agg #[.slice ac nc cc, .slice ae ne ce, .slice ap np cp, .int .i64 br, .int .i64 dr, .slice an nn cn, .int .i64 rs, .int .i64 ro]] w (RetB (.bool v) w) := h ▸ small_any a1 n1 c1 a2 n2 c2 a3 n3 c3 f s ac nc cc ae ne ce ap np cp br dr an nn cn rs ro w
/-- A load in a quiet walk, whose value is known in every world of the class. -/
theorem quiet_load_const {P : Program} {C : World → Prop} {a : Act} {K : Act → Prop} {dst : Option Tmp} {ty t : TypeId} {pos : String} {after : Array Edge} {guard : Option (Nat × Bool)} {x : Operand} {g : Nat} {v : Value}
    (hx : a.eval x = .pointer (some ⟨g, 0, none⟩)) (hc : ∀ w, C w → (loadVar t ⟨g, 0, none⟩).run P w = .ok v w)
    (h : (Oper.mk dst (.assign (.const v)) ty pos after guard).quiet P a C K) : (Oper.mk dst (.load t x) ty pos after guard).quiet P a C K := by
  obtain ⟨v', h1, h2⟩ := h
  refine ⟨v', fun w hw => ?_, h2⟩
  have h3 := h1 w hw
  unfold Oper.quietAt at h3 ⊢
  rw [BigFrame.run_assign (.const v) rfl] at h3
  unfold execOp
  simp only [hx, Instr.loadAt, Instr.sureAddr, Sem.run_bind, Sem.run_pure, Result.andThen_ok, hc w hw]
  exact h3
/-- The three boxes read whole. -/
theorem rd_loads {w V : World} {g r a : Array Value} (h : V = ((w.alloc (.cells g 41)).alloc (.cells r 43)).alloc (.cells a 47)) (hg : g.size = 22) (hr : r.size = 5) (ha : a.size = 8) (y : World) (hy : Below V.heap.size V y) :
    (loadVar 41 ⟨w.heap.size, 0, none⟩).run Tryd.prog y = .ok (.agg g) y ∧ (loadVar 43 ⟨w.heap.size + 1, 0, none⟩).run Tryd.prog y = .ok (.agg r) y ∧ (loadVar 47 ⟨w.heap.size + 1 + 1, 0, none⟩).run Tryd.prog y = .ok (.agg a) y := by
  subst h
  have e1 : (w.alloc (.cells g 41)).heap.size = w.heap.size + 1 := by simp
  have e2 : ((w.alloc (.cells g 41)).alloc (.cells r 43)).heap.size = w.heap.size + 1 + 1 := by simp
  have c1 := ((Cel.new w g 41).alloc (.cells r 43)).alloc (.cells a 47)
  have c2 := (Cel.new (w.alloc (.cells g 41)) r 43).alloc (.cells a 47)
  have c3 := Cel.new ((w.alloc (.cells g 41)).alloc (.cells r 43)) a 47
  rw [e1] at c2
  rw [e2] at c3
  exact ⟨run_loadVar_row y _ 41 41 g _ _ (c1.below hy c1.lt) Tryd.underlying41 rfl (by rw [hg]; kernel_rfl), run_loadVar_row y _ 43 43 r _ _ (c2.below hy c2.lt) Tryd.underlying43 rfl (by rw [hr]; kernel_rfl), run_loadVar_row y _ 47 47 a _ _ (c3.below hy c3.lt) Tryd.underlying47 rfl (by rw [ha]; kernel_rfl)⟩
set_option maxHeartbeats 8000000 in
set_option maxRecDepth 100000 in
theorem reportDraws_no (gn : ByteArray) (y : Nat → Int) (p1 : Option Addr) (q1 r1 : Nat) (p2 : Option Addr) (q2 r2 : Nat) (n : Int) (a1 : Option Addr) (n1 c1 : Nat) (a2 : Option Addr) (n2 c2 : Nat) (a3 : Option Addr) (n3 c3 : Nat) (f : Int) (s : ByteArray) (ac : Option Addr) (nc cc : Nat) (ae : Option Addr) (ne ce : Nat) (ap : Option Addr) (np cp : Nat) (br dr : Int) (an : Option Addr) (nn cn : Nat) (rs ro : Int) (w : World) (hp : P10 w) (hm : smB n1 n2 n3 nc nn = false) :
    Calls Tryd.prog 7 #[.agg #[.string gn, .int .i64 (y 1), .int .i64 (y 2), .int .i64 (y 3), .int .i64 (y 4), .int .i64 (y 5), .int .i64 (y 6), .int .i64 (y 7), .int .i64 (y 8), .int .i64 (y 9), .int .i64 (y 10), .int .i64 (y 11), .int .i64 (y 12), .int .i64 (y 13), .int .i64 (y 14), .int .i64 (y 15), .int .i64 (y 16), .int .i64 (y 17), .int .i64 (y 18), .int .i64 (y 19), .slice p1 q1 r1, .slice p2 q2 r2], .int .i64 n, .agg #[.slice a1 n1 c1, .slice a2 n2 c2, .slice a3 n3 c3, .int .i64 f, .string s], .agg #[.slice ac nc cc, .slice ae ne ce, .slice ap np cp, .int .i64 br, .int .i64 dr, .slice an nn cn, .int .i64 rs, .int .i64 ro]] w (RetB (.bool true) w) := by
  obtain ⟨V, hV⟩ : ∃ V : World, V = ((w.alloc (.cells #[.string gn, .int .i64 (y 1), .int .i64 (y 2), .int .i64 (y 3), .int .i64 (y 4), .int .i64 (y 5), .int .i64 (y 6), .int .i64 (y 7), .int .i64 (y 8), .int .i64 (y 9), .int .i64 (y 10), .int .i64 (y 11), .int .i64 (y 12), .int .i64 (y 13), .int .i64 (y 14), .int .i64 (y 15), .int .i64 (y 16), .int .i64 (y 17), .int .i64 (y 18), .int .i64 (y 19), .slice p1 q1 r1, .slice p2 q2 r2] 41)).alloc (.cells #[.slice a1 n1 c1, .slice a2 n2 c2, .slice a3 n3 c3, .int .i64 f, .string s] 43)).alloc (.cells #[.slice ac nc cc, .slice ae ne ce, .slice ap np cp, .int .i64 br, .int .i64 dr, .slice an nn cn, .int .i64 rs, .int .i64 ro] 47) := ⟨_, rfl⟩
  have HL := Lib.hid (rd_loads hV rfl rfl rfl)
  obtain ⟨hG, hR, hA, hBV⟩ := rd_cells hV
  have HBV := Lib.hid hBV
  have HW := Lib.hid hV
  have HX := Lib.hid (Below.refl V.heap.size V)
  have hx : ∀ y, Below V.heap.size V y → Below w.heap.size w y := fun y h => hBV.trans (h.mono hBV.size)
  have HD3 := Lib.hid fun y (h : Below V.heap.size V y) => draws_any y (hp.grow (hx y h))
  have HS := Lib.hid (small_at a1 n1 c1 a2 n2 c2 a3 n3 c3 f s ac nc cc ae ne ce ap np cp br dr an nn cn rs ro _ hm)
  obtain ⟨l1, l2, l3⟩ := HL.out V HX.out
  clear hm hG hR hA hBV hV hx hp HL
  go_enter Tryd.func7, Tryd.ntmps7
  go_wp2_with fail
  rw [← HW.out]
  go_wp2_with (first
    | (go_at_call 19; (with_reducible refine (HS.out _).mono ?_); rintro e w1 ⟨rfl, hb1⟩; replace HX := Lib.hid (HX.out.trans (hb1.mono HX.out.size)); clear hb1)
    | (go_at_call 20; (with_reducible refine (HD3.out _ HX.out).mono ?_); rintro e w1 ⟨rfl, hb1⟩; replace HX := Lib.hid (HX.out.trans (hb1.mono HX.out.size)); clear hb1))
  go_ret
  exact ⟨rfl, HBV.out.trans (HX.out.mono HBV.out.size)⟩
set_option maxHeartbeats 8000000 in
set_option maxRecDepth 100000 in
theorem reportDraws_yes (gn : ByteArray) (y : Nat → Int) (p1 : Option Addr) (q1 r1 : Nat) (p2 : Option Addr) (q2 r2 : Nat) (n : Int) (a1 : Option Addr) (n1 c1 : Nat) (z1 : Nat → Int) (a2 : Option Addr) (n2 c2 : Nat) (z2 : Nat → Int) (a3 : Option Addr) (n3 c3 : Nat) (z3 : Nat → Int) (f : Int) (s : ByteArray) (ac : Option Addr) (nc cc : Nat) (zc : Nat → Int) (ae : Option Addr) (ne ce : Nat) (ze : Nat → Int) (ap : Option Addr) (np cp : Nat) (zp : Nat → Int) (br dr : Int) (an : Option Addr) (nn cn : Nat) (zn : Nat → Int) (rs ro : Int) (w : World) (hgn : gn.size ≤ 2000000) (hn : I64 n) (hr1 : NRow w a1 n1 z1) (hr2 : NRow w a2 n2 z2) (hr3 : NRow w a3 n3 z3) (hf : I64 f) (hs : s.size ≤ 2000000) (hrc : NRow w ac nc zc) (hre : NRow w ae ne ze) (hrp : NRow w ap np zp) (hbr : I64 br) (hdr : I64 dr) (hrn : NRow w an nn zn) (hrs : I64 rs) (hro : I64 ro) (hp : P10 w) (hm : smB n1 n2 n3 nc nn = true) :
    Calls Tryd.prog 7 #[.agg #[.string gn, .int .i64 (y 1), .int .i64 (y 2), .int .i64 (y 3), .int .i64 (y 4), .int .i64 (y 5), .int .i64 (y 6), .int .i64 (y 7), .int .i64 (y 8), .int .i64 (y 9), .int .i64 (y 10), .int .i64 (y 11), .int .i64 (y 12), .int .i64 (y 13), .int .i64 (y 14), .int .i64 (y 15), .int .i64 (y 16), .int .i64 (y 17), .int .i64 (y 18), .int .i64 (y 19), .slice p1 q1 r1, .slice p2 q2 r2], .int .i64 n, .agg #[.slice a1 n1 c1, .slice a2 n2 c2, .slice a3 n3 c3, .int .i64 f, .string s], .agg #[.slice ac nc cc, .slice ae ne ce, .slice ap np cp, .int .i64 br, .int .i64 dr, .slice an nn cn, .int .i64 rs, .int .i64 ro]] w (RetB (.bool true) w) := by
  obtain ⟨V, hV⟩ : ∃ V : World, V = ((w.alloc (.cells #[.string gn, .int .i64 (y 1), .int .i64 (y 2), .int .i64 (y 3), .int .i64 (y 4), .int .i64 (y 5), .int .i64 (y 6), .int .i64 (y 7), .int .i64 (y 8), .int .i64 (y 9), .int .i64 (y 10), .int .i64 (y 11), .int .i64 (y 12), .int .i64 (y 13), .int .i64 (y 14), .int .i64 (y 15), .int .i64 (y 16), .int .i64 (y 17), .int .i64 (y 18), .int .i64 (y 19), .slice p1 q1 r1, .slice p2 q2 r2] 41)).alloc (.cells #[.slice a1 n1 c1, .slice a2 n2 c2, .slice a3 n3 c3, .int .i64 f, .string s] 43)).alloc (.cells #[.slice ac nc cc, .slice ae ne ce, .slice ap np cp, .int .i64 br, .int .i64 dr, .slice an nn cn, .int .i64 rs, .int .i64 ro] 47) := ⟨_, rfl⟩
  have HL := Lib.hid (rd_loads hV rfl rfl rfl)
  obtain ⟨hG, hR, hA, hBV⟩ := rd_cells hV
  have HBV := Lib.hid hBV
  have HW := Lib.hid hV
  have HX := Lib.hid (Below.refl V.heap.size V)
  have hx : ∀ y, Below V.heap.size V y → Below w.heap.size w y := fun y h => hBV.trans (h.mono hBV.size)
  have HD3 := Lib.hid fun y (h : Below V.heap.size V y) => draws_any y (hp.grow (hx y h))
  have HS := Lib.hid (small_at a1 n1 c1 a2 n2 c2 a3 n3 c3 f s ac nc cc ae ne ce ap np cp br dr an nn cn rs ro _ hm)
  obtain ⟨k1, k2, k3, k4, k5⟩ := smB_yes hm
  have HD1 := Lib.hid fun yy (h : Below V.heap.size V yy) => draw_any gn y p1 q1 r1 p2 q2 r2 n a1 n1 c1 z1 a2 n2 c2 z2 a3 n3 c3 z3 f s ac nc cc zc ae ne ce ze ap np cp zp br dr an nn cn zn rs ro yy hgn hn (hr1.below (hx yy h)) (hr2.below (hx yy h)) (hr3.below (hx yy h)) hf hs (hrc.below (hx yy h)) (hre.below (hx yy h)) (hrp.below (hx yy h)) hbr hdr (hrn.below (hx yy h)) hrs hro k1 k2 k3 k4 k5 (hp.grow (hx yy h))
  have HD2 := Lib.hid fun yy (h : Below V.heap.size V yy) => rDraw_any gn y p1 q1 r1 p2 q2 r2 n a1 n1 c1 z1 a2 n2 c2 z2 a3 n3 c3 z3 f s ac nc cc zc ae ne ce ze ap np cp zp br dr an nn cn zn rs ro yy hgn hn (hr1.below (hx yy h)) (hr2.below (hx yy h)) (hr3.below (hx yy h)) hf hs (hrc.below (hx yy h)) (hre.below (hx yy h)) (hrp.below (hx yy h)) hbr hdr (hrn.below (hx yy h)) hrs hro k1 k2 k3 k4 k5
  obtain ⟨l1, l2, l3⟩ := HL.out V HX.out
  clear hm hG hR hA hBV hV hx hr1 hr2 hr3 hrc hre hrp hrn hn hf hbr hdr hrs hro hp k1 k2 k3 k4 k5
  go_enter Tryd.func7, Tryd.ntmps7
  go_wp2_with fail
  rw [← HW.out]
  obtain ⟨GL, hGL⟩ : ∃ GL : List Value, GL.toArray = #[.string gn, .int .i64 (y 1), .int .i64 (y 2), .int .i64 (y 3), .int .i64 (y 4), .int .i64 (y 5), .int .i64 (y 6), .int .i64 (y 7), .int .i64 (y 8), .int .i64 (y 9), .int .i64 (y 10), .int .i64 (y 11), .int .i64 (y 12), .int .i64 (y 13), .int .i64 (y 14), .int .i64 (y 15), .int .i64 (y 16), .int .i64 (y 17), .int .i64 (y 18), .int .i64 (y 19), .slice p1 q1 r1, .slice p2 q2 r2] ∧ GL.length = 22 := ⟨(#[.string gn, .int .i64 (y 1), .int .i64 (y 2), .int .i64 (y 3), .int .i64 (y 4), .int .i64 (y 5), .int .i64 (y 6), .int .i64 (y 7), .int .i64 (y 8), .int .i64 (y 9), .int .i64 (y 10), .int .i64 (y 11), .int .i64 (y 12), .int .i64 (y 13), .int .i64 (y 14), .int .i64 (y 15), .int .i64 (y 16), .int .i64 (y 17), .int .i64 (y 18), .int .i64 (y 19), .slice p1 q1 r1, .slice p2 q2 r2] : Array Value).toList, rfl, rfl⟩
  obtain ⟨RL, hRL⟩ : ∃ RL : List Value, RL.toArray = #[.slice a1 n1 c1, .slice a2 n2 c2, .slice a3 n3 c3, .int .i64 f, .string s] ∧ RL.length = 5 := ⟨(#[.slice a1 n1 c1, .slice a2 n2 c2, .slice a3 n3 c3, .int .i64 f, .string s] : Array Value).toList, rfl, rfl⟩
  obtain ⟨AL, hAL⟩ : ∃ AL : List Value, AL.toArray = #[.slice ac nc cc, .slice ae ne ce, .slice ap np cp, .int .i64 br, .int .i64 dr, .slice an nn cn, .int .i64 rs, .int .i64 ro] ∧ AL.length = 8 := ⟨(#[.slice ac nc cc, .slice ae ne ce, .slice ap np cp, .int .i64 br, .int .i64 dr, .slice an nn cn, .int .i64 rs, .int .i64 ro] : Array Value).toList, rfl, rfl⟩
  obtain ⟨tx, htx⟩ : ∃ t : ByteArray, t = ⟨(drwT gn.data.toList n n1 z1 n2 z2 n3 z3 f s.data.toList (min (min nc ne) np) zc ze zp br dr nn zn rs ro).toArray⟩ := ⟨_, rfl⟩
  rw [← hGL.1, ← hRL.1, ← hAL.1]
  rw [← hGL.1, ← hRL.1, ← hAL.1, ← htx] at HD1 HD2
  rw [← hRL.1, ← hAL.1] at HS
  rw [← hGL.1, ← hRL.1, ← hAL.1] at HL
  rw [← hRL.1] at l2
  rw [← hAL.1] at l3
  clear hGL hRL hAL htx HW l1
  go_wp2_with (go_at_call 19; (with_reducible refine (HS.out _).mono ?_); rintro e w1 ⟨rfl, hb1⟩; replace HX := Lib.hid (HX.out.trans (hb1.mono HX.out.size)); clear hb1)
  clear l2 l3 HS
  obtain ⟨w2, hw2⟩ : ∃ w2 : World, w2 = w1 := ⟨_, rfl⟩
  subst hw2
  have F1 := Lib.hid fun x : Sub w2.heap.size w2 => HD1.out x.w (HX.out.trans (x.h.mono HX.out.size))
  have F2 := Lib.hid fun x : Sub w2.heap.size w2 => HD2.out x.w (HX.out.trans (x.h.mono HX.out.size))
  have F3 := Lib.hid fun x : Sub w2.heap.size w2 => HD3.out x.w (HX.out.trans (x.h.mono HX.out.size))
  have L1 : Hid (∀ y : World, (∃ x : Sub w2.heap.size w2, y = x.w) → (loadVar 41 ⟨w.heap.size, 0, none⟩).run Tryd.prog y = .ok (.agg GL.toArray) y) := Lib.hid fun y ⟨x, hy⟩ => hy ▸ (HL.out x.w (HX.out.trans (x.h.mono HX.out.size))).1
  have L2 : Hid (∀ y : World, (∃ x : Sub w2.heap.size w2, y = x.w) → (loadVar 43 ⟨w.heap.size + 1, 0, none⟩).run Tryd.prog y = .ok (.agg RL.toArray) y) := Lib.hid fun y ⟨x, hy⟩ => hy ▸ (HL.out x.w (HX.out.trans (x.h.mono HX.out.size))).2.1
  have L3 : Hid (∀ y : World, (∃ x : Sub w2.heap.size w2, y = x.w) → (loadVar 47 ⟨w.heap.size + 1 + 1, 0, none⟩).run Tryd.prog y = .ok (.agg AL.toArray) y) := Lib.hid fun y ⟨x, hy⟩ => hy ▸ (HL.out x.w (HX.out.trans (x.h.mono HX.out.size))).2.2
  refine wp_region_below (by kernel_rfl) (by kernel_rfl) ?_
  (go_big_quiet_want; refine quiet_load_const rfl L1.out ?_; go_big_quiet_op; go_big_quiet_on)
  go_big_quiet_step (fail)
  (go_big_quiet_want; refine quiet_load_const rfl L2.out ?_; go_big_quiet_op; go_big_quiet_on)
  (go_big_quiet_want; refine quiet_load_const rfl L3.out ?_; go_big_quiet_op; go_big_quiet_on)
  go_big_quiet_step ((go_at_call 21; (with_reducible exact Sub.ofB _ (Nat.le_refl _) (F1.out _))))
  (go_big_quiet_want; refine quiet_load_const rfl L1.out ?_; go_big_quiet_op; go_big_quiet_on)
  go_big_quiet_step (fail)
  (go_big_quiet_want; refine quiet_load_const rfl L2.out ?_; go_big_quiet_op; go_big_quiet_on)
  (go_big_quiet_want; refine quiet_load_const rfl L3.out ?_; go_big_quiet_op; go_big_quiet_on)
  go_big_quiet_step ((go_at_call 22; (with_reducible exact Sub.ofB _ (Nat.le_refl _) (F2.out _))))
  repeat (go_big_quiet_step ((go_at_call 20; (with_reducible exact Sub.ofB _ (Nat.le_refl _) (F3.out _)))))
  refine wpQuiet_nil ?_
  rintro w3 ⟨⟨_, hb3⟩, rfl⟩
  have HX4 := Lib.hid (HX.out.trans (hb3.mono HX.out.size))
  go_wp2
  go_ret
  exact ⟨ret_bool (by simp), HBV.out.trans (HX4.out.mono HBV.out.size)⟩
end Go.Proofs.YtgmilhhifigkkaaDoor
