/- The law CalendarTexts: it returns true, for every number and every text, where the table of the months is laid. -/
import Derived.Test.YtmncocmdobondaaDoorCalf
import Derived.Test.YtmncocmdobondaaDoorCalh
import Derived.Test.YtmncocmdobondaaDoorCalx
namespace Go.Proofs.YtmncocmdobondaaDoor
open Go.ChangeShapes Go.WideShapes Go.ChangeAt Go.RowKit Go.Lott

/-- The text of a time, byte by byte. -/
theorem fmtB_list (t : Int) : (fmtB t).data.toList =
    [48 + Cal.cY (t / 1440) / 100 / 10, 48 + Cal.cY (t / 1440) / 100 % 10, 48 + Cal.cY (t / 1440) % 100 / 10, 48 + Cal.cY (t / 1440) % 100 % 10, 45,
     48 + Cal.cM (t / 1440) / 10, 48 + Cal.cM (t / 1440) % 10, 45, 48 + Cal.cD (t / 1440) / 10, 48 + Cal.cD (t / 1440) % 10, 32,
     48 + t % 1440 / 60 / 10, 48 + t % 1440 / 60 % 10, 58, 48 + t % 60 / 10, 48 + t % 60 % 10].map fun n => UInt8.ofNat n.toNat := by
  unfold fmtB
  simp [twoS, strOfNums]
theorem fmtB_size (t : Int) : (fmtB t).size = 16 := by
  have := congrArg List.length (fmtB_list t)
  simpa using this
theorem byte_of {n : Int} (h0 : 0 ≤ n) (h1 : n ≤ 255) : ((UInt8.ofNat n.toNat).toNat : Int) = n := by
  have : n.toNat < 256 := by omega
  simp [Nat.mod_eq_of_lt this]
  omega
theorem bt_map {s : ByteArray} {l : List Int} (h : s.data.toList = l.map fun n => UInt8.ofNat n.toNat) {k : Nat} {n : Int} (hk : l[k]? = some n) (h0 : 0 ≤ n) (h1 : n ≤ 255) : bt s k = n := by
  unfold bt
  rw [h, List.getD_eq_getElem?_getD, List.getElem?_map, hk]
  exact byte_of h0 h1
theorem okDig {s : ByteArray} {k : Nat} {n : Int} (h : bt s k = n) (hs : sep k = 0) (h0 : 48 ≤ n) (h1 : n ≤ 57) : okAt s k = true := by unfold okAt; rw [if_pos hs, h]; exact decide_eq_true ⟨h0, h1⟩
theorem okSep {s : ByteArray} {k : Nat} {n : Int} (h : bt s k = n) (hs : sep k ≠ 0) (hn : n = sep k) : okAt s k = true := by unfold okAt; rw [if_neg hs, h]; exact decide_eq_true hn
theorem isT_iff (t : Int) : isT t = true ↔ 0 ≤ t ∧ t ≤ 1073741824 := by simp [isT]
set_option maxHeartbeats 2000000 in
theorem parse_fmt {t : Int} (h : isT t = true) : t = pN (fmtB t) ∧ 0 = pE (fmtB t) := by
  obtain ⟨h0, h1⟩ := (isT_iff t).1 h
  have hl := fmtB_list t
  have hy := Cal.cY_bd (t / 1440) (by omega) (by omega)
  have hy2 : Cal.cY (t / 1440) ≤ 4100 := by omega
  obtain ⟨m1, m2, d1, d2, d3, d4⟩ := Cal.c_bd (t / 1440) (by omega) (by omega)
  have hn := Cal.num_c (t / 1440) (by omega) (by omega)
  generalize hY : Cal.cY (t / 1440) = y at *
  generalize hM : Cal.cM (t / 1440) = m at *
  generalize hD : Cal.cD (t / 1440) = d at *
  have c0 : 48 ≤ 48 + y / 100 / 10 ∧ 48 + y / 100 / 10 ≤ 57 := by omega
  have c1 : 48 ≤ 48 + y / 100 % 10 ∧ 48 + y / 100 % 10 ≤ 57 := by omega
  have c2 : 48 ≤ 48 + y % 100 / 10 ∧ 48 + y % 100 / 10 ≤ 57 := by omega
  have c3 : 48 ≤ 48 + y % 100 % 10 ∧ 48 + y % 100 % 10 ≤ 57 := by omega
  have c5 : 48 ≤ 48 + m / 10 ∧ 48 + m / 10 ≤ 57 := by omega
  have c6 : 48 ≤ 48 + m % 10 ∧ 48 + m % 10 ≤ 57 := by omega
  have c8 : 48 ≤ 48 + d / 10 ∧ 48 + d / 10 ≤ 57 := by omega
  have c9 : 48 ≤ 48 + d % 10 ∧ 48 + d % 10 ≤ 57 := by omega
  have c11 : 48 ≤ 48 + t % 1440 / 60 / 10 ∧ 48 + t % 1440 / 60 / 10 ≤ 57 := by omega
  have c12 : 48 ≤ 48 + t % 1440 / 60 % 10 ∧ 48 + t % 1440 / 60 % 10 ≤ 57 := by omega
  have c14 : 48 ≤ 48 + t % 60 / 10 ∧ 48 + t % 60 / 10 ≤ 57 := by omega
  have c15 : 48 ≤ 48 + t % 60 % 10 ∧ 48 + t % 60 % 10 ≤ 57 := by omega
  have b0 := bt_map hl (k := 0) rfl (by have := c0.1; exact Int.le_trans (by decide) this) (Int.le_trans c0.2 (by decide))
  have b1 := bt_map hl (k := 1) rfl (by have := c1.1; exact Int.le_trans (by decide) this) (Int.le_trans c1.2 (by decide))
  have b2 := bt_map hl (k := 2) rfl (by have := c2.1; exact Int.le_trans (by decide) this) (Int.le_trans c2.2 (by decide))
  have b3 := bt_map hl (k := 3) rfl (by have := c3.1; exact Int.le_trans (by decide) this) (Int.le_trans c3.2 (by decide))
  have b4 := bt_map hl (k := 4) rfl (by decide) (by decide)
  have b5 := bt_map hl (k := 5) rfl (by have := c5.1; exact Int.le_trans (by decide) this) (Int.le_trans c5.2 (by decide))
  have b6 := bt_map hl (k := 6) rfl (by have := c6.1; exact Int.le_trans (by decide) this) (Int.le_trans c6.2 (by decide))
  have b7 := bt_map hl (k := 7) rfl (by decide) (by decide)
  have b8 := bt_map hl (k := 8) rfl (by have := c8.1; exact Int.le_trans (by decide) this) (Int.le_trans c8.2 (by decide))
  have b9 := bt_map hl (k := 9) rfl (by have := c9.1; exact Int.le_trans (by decide) this) (Int.le_trans c9.2 (by decide))
  have b10 := bt_map hl (k := 10) rfl (by decide) (by decide)
  have b11 := bt_map hl (k := 11) rfl (by have := c11.1; exact Int.le_trans (by decide) this) (Int.le_trans c11.2 (by decide))
  have b12 := bt_map hl (k := 12) rfl (by have := c12.1; exact Int.le_trans (by decide) this) (Int.le_trans c12.2 (by decide))
  have b13 := bt_map hl (k := 13) rfl (by decide) (by decide)
  have b14 := bt_map hl (k := 14) rfl (by have := c14.1; exact Int.le_trans (by decide) this) (Int.le_trans c14.2 (by decide))
  have b15 := bt_map hl (k := 15) rfl (by have := c15.1; exact Int.le_trans (by decide) this) (Int.le_trans c15.2 (by decide))
  have hok : okAll (fmtB t) = true := okAll_of fun j hj => by
    rcases (show j = 0 ∨ j = 1 ∨ j = 2 ∨ j = 3 ∨ j = 4 ∨ j = 5 ∨ j = 6 ∨ j = 7 ∨ j = 8 ∨ j = 9 ∨ j = 10 ∨ j = 11 ∨ j = 12 ∨ j = 13 ∨ j = 14 ∨ j = 15 by omega) with rfl | rfl | rfl | rfl | rfl | rfl | rfl | rfl | rfl | rfl | rfl | rfl | rfl | rfl | rfl | rfl
    · exact okDig b0 rfl c0.1 c0.2
    · exact okDig b1 rfl c1.1 c1.2
    · exact okDig b2 rfl c2.1 c2.2
    · exact okDig b3 rfl c3.1 c3.2
    · exact okSep b4 (by decide) rfl
    · exact okDig b5 rfl c5.1 c5.2
    · exact okDig b6 rfl c6.1 c6.2
    · exact okSep b7 (by decide) rfl
    · exact okDig b8 rfl c8.1 c8.2
    · exact okDig b9 rfl c9.1 c9.2
    · exact okSep b10 (by decide) rfl
    · exact okDig b11 rfl c11.1 c11.2
    · exact okDig b12 rfl c12.1 c12.2
    · exact okSep b13 (by decide) rfl
    · exact okDig b14 rfl c14.1 c14.2
    · exact okDig b15 rfl c15.1 c15.2
  have pY' : pY (fmtB t) = y := by unfold pY pr; rw [b0, b1, b2, b3]; omega
  have p5 : pr (fmtB t) 5 = m := by unfold pr; rw [b5, b6]; omega
  have p8 : pr (fmtB t) 8 = d := by unfold pr; rw [b8, b9]; omega
  have p11 : pr (fmtB t) 11 = t % 1440 / 60 := by unfold pr; rw [b11, b12]; omega
  have p14 : pr (fmtB t) 14 = t % 60 := by unfold pr; rw [b14, b15]; omega
  have hT : pT (fmtB t) = t := by unfold pT; rw [pY', p5, p8, p11, p14, hn]; omega
  have hx : exB y m d = true := (exB_iff y m d).2 ⟨hy.1, hy2, m1, m2, d1, d2⟩
  have hP : pOk (fmtB t) = true := by unfold pOk; rw [pY', p5, p8, p11, p14, hx, decide_eq_true (by omega), decide_eq_true (by omega)]; rfl
  have := p_fine (fmtB_size t) hok hP (by rw [hT]; exact h1)
  rwa [hT] at this
theorem Parse_short (s : ByteArray) (w : World) (h : s.size ≠ 16) : Calls Tryd.prog 28 #[.string s] w (RetB (.tuple #[.int .i64 (pN s), .int .i64 (pE s)]) w) := by
  have HP := Lib.hid (p_syntax (s := s) fun c => h c.1)
  have hsz : ((s.size : Int) != 16) = true := by rw [bne_iff_ne]; omega
  clear h
  go_enter Tryd.func28, Tryd.ntmps28
  go_wp2
  go_ret2
  exact ⟨ret_two HP.out.1 HP.out.2, (Below.refl _ _).alloc (Nat.le_refl _) _⟩
theorem rParse_short (s : ByteArray) (w : World) (h : s.size ≠ 16) : Calls Tryd.prog 29 #[.string s] w (RetB (.tuple #[.int .i64 (pN s), .int .i64 (pE s)]) w) := by
  have HP := Lib.hid (p_syntax (s := s) fun c => h c.1)
  have hsz : ((s.size : Int) != 16) = true := by rw [bne_iff_ne]; omega
  clear h
  go_enter Tryd.func29, Tryd.ntmps29
  go_wp2
  go_ret2
  exact ⟨ret_two HP.out.1 HP.out.2, Below.refl _ _⟩
theorem Parse_any (s : ByteArray) (w : World) (ht : Tab w) : Calls Tryd.prog 28 #[.string s] w (RetB (.tuple #[.int .i64 (pN s), .int .i64 (pE s)]) w) := by
  by_cases h : s.size = 16
  · exact Parse_loop s w ht (by omega) (by omega)
  · exact Parse_short s w h
theorem rParse_any (s : ByteArray) (w : World) : Calls Tryd.prog 29 #[.string s] w (RetB (.tuple #[.int .i64 (pN s), .int .i64 (pE s)]) w) := by
  by_cases h : s.size = 16
  · exact rParse_loop s w (by omega) (by omega)
  · exact rParse_short s w h
theorem f1501 : fmtS 1501 = ⟨#[50, 48, 48, 48, 45, 48, 49, 45, 48, 50, 32, 48, 49, 58, 48, 49]⟩ := by decide +kernel
set_option maxRecDepth 100000 in
set_option maxHeartbeats 2000000 in
theorem calendarTexts_walk (t : Int) (s : ByteArray) (w : World) (_ : (Lit.int .i64 t).wf = true) (_ : s.size ≤ maxLen) (ht : Tab w) :
    Calls Tryd.prog 9 #[.int .i64 t, .string s] w (RetB (.bool true) w) := by
  have hbel := Below.refl w.heap.size w
  have HT := Lib.hid ht
  clear ht
  have e1 := f1501
  have e2 : fmtE 1501 = 0 := by decide
  by_cases hd : isT t = true
  · have b1 : (fmtE t == 0) = true := by rw [(fmt_yes hd).2]; rfl
    have p1 : pN (fmtS t) = t := by rw [(fmt_yes hd).1]; exact (parse_fmt hd).1.symm
    have p2 : pE (fmtS t) = 0 := by rw [(fmt_yes hd).1]; exact (parse_fmt hd).2.symm
    clear hd
    go_enter Tryd.func9, Tryd.ntmps9
    go_wp2_with (first | (go_at_call 26; refine (Format_any _ _ (HT.out.grow hbel)).mono ?_; rintro e w1 ⟨rfl, hb1⟩; replace hbel := hbel.trans (hb1.mono hbel.size); clear hb1) | (go_at_call 27; refine (rFormat_any _ _ trivial).mono ?_; rintro e w1 ⟨rfl, hb1⟩; replace hbel := hbel.trans (hb1.mono hbel.size); clear hb1) | (go_at_call 28; refine (Parse_any _ _ (HT.out.grow hbel)).mono ?_; rintro e w1 ⟨rfl, hb1⟩; replace hbel := hbel.trans (hb1.mono hbel.size); clear hb1) | (go_at_call 29; refine (rParse_any _ _).mono ?_; rintro e w1 ⟨rfl, hb1⟩; replace hbel := hbel.trans (hb1.mono hbel.size); clear hb1))
    go_ret
    exact ⟨rfl, hbel⟩
  · have b1 : (fmtE t == 0) = false := by rw [(fmt_no (by simpa using hd)).2]; rfl
    clear hd
    go_enter Tryd.func9, Tryd.ntmps9
    go_wp2_with (first | (go_at_call 26; refine (Format_any _ _ (HT.out.grow hbel)).mono ?_; rintro e w1 ⟨rfl, hb1⟩; replace hbel := hbel.trans (hb1.mono hbel.size); clear hb1) | (go_at_call 27; refine (rFormat_any _ _ trivial).mono ?_; rintro e w1 ⟨rfl, hb1⟩; replace hbel := hbel.trans (hb1.mono hbel.size); clear hb1) | (go_at_call 28; refine (Parse_any _ _ (HT.out.grow hbel)).mono ?_; rintro e w1 ⟨rfl, hb1⟩; replace hbel := hbel.trans (hb1.mono hbel.size); clear hb1) | (go_at_call 29; refine (rParse_any _ _).mono ?_; rintro e w1 ⟨rfl, hb1⟩; replace hbel := hbel.trans (hb1.mono hbel.size); clear hb1))
    go_ret
    exact ⟨rfl, hbel⟩
end Go.Proofs.YtmncocmdobondaaDoor
