/- The laws CalendarParts, CalendarInverts, CalendarAges: each returns true, for every argument, where the table of the months is laid. -/
import Derived.Test.YtmncocmdobondaaDoorCalw
namespace Go.Proofs.YtmncocmdobondaaDoor
open Go.ChangeShapes Go.WideShapes Go.ChangeAt Go.RowKit Go.Lott

/-! The law CalendarParts -/
theorem perE_cases {t k : Int} (h : perE t k = 0) : isT t = true ∧ 1 ≤ k ∧ k ≤ 3 := by
  unfold perE at h
  by_cases h1 : isT t = true
  · rw [if_pos h1] at h
    by_cases h2 : 1 ≤ k ∧ k ≤ 3
    · exact ⟨h1, h2⟩
    · rw [if_neg h2] at h; omega
  · rw [if_neg h1] at h; omega
theorem raw_bd {t k : Int} (h0 : 0 ≤ t) (h1 : t ≤ 1073741824) : 1440 * pFirst t k ≤ t ∧ t ≤ 1440 * (pFirst t k + pDays t k) - 1 := by
  have hb := Cal.c_bd (t / 1440) (by omega) (by omega)
  unfold pFirst pDays
  by_cases k2 : k = 2
  · rw [if_pos k2, if_pos k2]; omega
  · rw [if_neg k2, if_neg k2]
    by_cases k3 : k = 3
    · rw [if_pos k3, if_pos k3]; omega
    · rw [if_neg k3, if_neg k3]; omega
theorem raw_apart {t u k : Int} (h0 : 0 ≤ t) (h1 : t ≤ 1073741824) (g0 : 0 ≤ u) (g1 : u ≤ 1073741824) :
    (pFirst t k = pFirst u k ∧ pDays t k = pDays u k) ∨ pFirst t k + pDays t k ≤ pFirst u k ∨ pFirst u k + pDays u k ≤ pFirst t k := by
  have hb := Cal.c_bd (t / 1440) (by omega) (by omega)
  have gb := Cal.c_bd (u / 1440) (by omega) (by omega)
  have hn := Cal.num_c (t / 1440) (by omega) (by omega)
  have gn := Cal.num_c (u / 1440) (by omega) (by omega)
  unfold pFirst pDays
  by_cases k2 : k = 2
  · rw [if_pos k2, if_pos k2, if_pos k2, if_pos k2]; omega
  · rw [if_neg k2, if_neg k2, if_neg k2, if_neg k2]
    by_cases k3 : k = 3
    · rw [if_pos k3, if_pos k3, if_pos k3, if_pos k3]
      unfold Cal.num at hn gn
      by_cases e : Cal.cY (t / 1440) = Cal.cY (u / 1440) ∧ Cal.cM (t / 1440) = Cal.cM (u / 1440)
      · rw [e.1, e.2] at hn
        rw [e.1, e.2]
        exact .inl ⟨by omega, rfl⟩
      · by_cases l : Cal.cY (t / 1440) < Cal.cY (u / 1440) ∨ Cal.cY (t / 1440) = Cal.cY (u / 1440) ∧ Cal.cM (t / 1440) < Cal.cM (u / 1440)
        · have := Cal.month_apart hb.1 hb.2.1 gb.1 gb.2.1 l
          exact .inr (.inl (by omega))
        · have := Cal.month_apart gb.1 gb.2.1 hb.1 hb.2.1 (show Cal.cY (u / 1440) < Cal.cY (t / 1440) ∨ Cal.cY (u / 1440) = Cal.cY (t / 1440) ∧ Cal.cM (u / 1440) < Cal.cM (t / 1440) by omega)
          exact .inr (.inr (by omega))
    · rw [if_neg k3, if_neg k3, if_neg k3, if_neg k3]; omega
theorem parts_law {t u k : Int} (h : perE t k = 0) (g : perE u k = 0) :
    perF t k ≤ t ∧ t ≤ perL t k ∧ perF u k ≤ u ∧ u ≤ perL u k ∧ (perF t k = perF u k ∧ perL t k = perL u k ∨ perL t k < perF u k ∨ perL u k < perF t k) := by
  obtain ⟨h1, h2, h3⟩ := perE_cases h
  obtain ⟨g1, _, _⟩ := perE_cases g
  have hr : 0 ≤ t ∧ t ≤ 1073741824 := by simpa [isT] using h1
  have gr : 0 ≤ u ∧ u ≤ 1073741824 := by simpa [isT] using g1
  have a := raw_bd (k := k) hr.1 hr.2
  have b := raw_bd (k := k) gr.1 gr.2
  have c := raw_apart (k := k) hr.1 hr.2 gr.1 gr.2
  rw [perF_yes h1 h2 h3 rfl, perL_yes h1 h2 h3 rfl rfl, perF_yes g1 h2 h3 rfl, perL_yes g1 h2 h3 rfl rfl]
  generalize pFirst t k = x at *
  generalize pFirst u k = y at *
  generalize pDays t k = p at *
  generalize pDays u k = q at *
  split <;> split <;> split <;> split <;> omega

set_option maxHeartbeats 1000000 in
theorem calendarParts_walk (t u kind : Int) (w : World) (_ : (Lit.int .i64 t).wf = true) (_ : (Lit.int .i64 u).wf = true) (_ : (Lit.int .i64 kind).wf = true) (ht : Tab w) :
    Calls Tryd.prog 5 #[.int .i64 t, .int .i64 u, .int .i64 kind] w (RetB (.bool true) w) := by
  have HT := Lib.hid ht
  clear ht
  have e1 : perF 1500 1 = 1440 := by decide
  have e2 : perL 1500 1 = 2879 := by decide
  have e3 : perE 1500 1 = 0 := by decide
  by_cases h : perE t kind = 0
  · by_cases g : perE u kind = 0
    · obtain ⟨l1, l2, l3, l4, l5⟩ := parts_law h g
      have b1 : (perE t kind != 0) = false := by simp [h]
      have b2 : (perE u kind != 0) = false := by simp [g]
      clear h g
      by_cases s : perF t kind = perF u kind
      · have s1 : (perF t kind == perF u kind) = true := by simp [s]
        by_cases r : perL t kind = perL u kind
        · have r1 : (perL t kind == perL u kind) = true := by simp [r]
          clear s r l5
          go_enter Tryd.func5, Tryd.ntmps5
          go_wp2_with (go_at_call 14; refine (Period_any _ _ _ HT.out).mono ?_; rintro e w' ⟨rfl, rfl⟩)
          go_ret
          exact ⟨rfl, Below.refl _ _⟩
        · have r1 : (perL t kind == perL u kind) = false := by simp [r]
          rcases (show perL t kind < perF u kind ∨ perL u kind < perF t kind by omega) with l6 | l6
          · clear s r l5
            go_enter Tryd.func5, Tryd.ntmps5
            go_wp2_with (go_at_call 14; refine (Period_any _ _ _ HT.out).mono ?_; rintro e w' ⟨rfl, rfl⟩)
            go_ret
            exact ⟨rfl, Below.refl _ _⟩
          · have l7 : ¬ perL t kind < perF u kind := by omega
            clear s r l5
            go_enter Tryd.func5, Tryd.ntmps5
            go_wp2_with (go_at_call 14; refine (Period_any _ _ _ HT.out).mono ?_; rintro e w' ⟨rfl, rfl⟩)
            go_ret
            exact ⟨rfl, Below.refl _ _⟩
      · have s1 : (perF t kind == perF u kind) = false := by simp [s]
        rcases (show perL t kind < perF u kind ∨ perL u kind < perF t kind by omega) with l6 | l6
        · clear s l5
          go_enter Tryd.func5, Tryd.ntmps5
          go_wp2_with (go_at_call 14; refine (Period_any _ _ _ HT.out).mono ?_; rintro e w' ⟨rfl, rfl⟩)
          go_ret
          exact ⟨rfl, Below.refl _ _⟩
        · have l7 : ¬ perL t kind < perF u kind := by omega
          clear s l5
          go_enter Tryd.func5, Tryd.ntmps5
          go_wp2_with (go_at_call 14; refine (Period_any _ _ _ HT.out).mono ?_; rintro e w' ⟨rfl, rfl⟩)
          go_ret
          exact ⟨rfl, Below.refl _ _⟩
    · have b2 : (perE u kind != 0) = true := by simp [g]
      by_cases h2 : perE t kind = 0
      · have b1 : (perE t kind != 0) = false := by simp [h]
        clear h g h2
        go_enter Tryd.func5, Tryd.ntmps5
        go_wp2_with (go_at_call 14; refine (Period_any _ _ _ HT.out).mono ?_; rintro e w' ⟨rfl, rfl⟩)
        go_ret
        exact ⟨rfl, Below.refl _ _⟩
      · have b1 : (perE t kind != 0) = true := by simp [h2]
        clear h g h2
        go_enter Tryd.func5, Tryd.ntmps5
        go_wp2_with (go_at_call 14; refine (Period_any _ _ _ HT.out).mono ?_; rintro e w' ⟨rfl, rfl⟩)
        go_ret
        exact ⟨rfl, Below.refl _ _⟩
  · have b1 : (perE t kind != 0) = true := by simp [h]
    clear h
    go_enter Tryd.func5, Tryd.ntmps5
    go_wp2_with (go_at_call 14; refine (Period_any _ _ _ HT.out).mono ?_; rintro e w' ⟨rfl, rfl⟩)
    go_ret
    exact ⟨rfl, Below.refl _ _⟩

/-! The law CalendarInverts -/
theorem exB_c (n : Int) (h0 : 0 ≤ n) (h1 : n < 745654) : exB (Cal.cY n) (Cal.cM n) (Cal.cD n) = true := by
  have hb := Cal.c_bd n h0 (by omega)
  have hy := Cal.cY_bd n h0 (by omega)
  rw [exB_iff]; omega
theorem dN_c (n : Int) (h0 : 0 ≤ n) (h1 : n < 745654) : dN (Cal.cY n) (Cal.cM n) (Cal.cD n) = n := by
  have : isD n = true := (isD_iff n).2 ⟨h0, h1⟩
  unfold dN; rw [Cal.num_c n h0 (by omega), exB_c n h0 h1, this]; rfl
theorem dE_c (n : Int) (h0 : 0 ≤ n) (h1 : n < 745654) : dE (Cal.cY n) (Cal.cM n) (Cal.cD n) = 0 := by
  have : isD n = true := (isD_iff n).2 ⟨h0, h1⟩
  unfold dE; rw [Cal.num_c n h0 (by omega), exB_c n h0 h1, this]; rfl
theorem dt_yes (n : Int) (h : isD n = true) : dtY n = Cal.cY n ∧ dtM n = Cal.cM n ∧ dtD n = Cal.cD n ∧ dtE n = 0 := by
  unfold dtY dtM dtD dtE; rw [h]; exact ⟨rfl, rfl, rfl, rfl⟩
theorem dt_no (n : Int) (h : isD n = false) : dtY n = 0 ∧ dtM n = 0 ∧ dtD n = 0 ∧ dtE n = 2 := by
  unfold dtY dtM dtD dtE; rw [h]; exact ⟨rfl, rfl, rfl, rfl⟩
theorem Date_yes (n : Int) (w : World) (ht : Tab w) (h0 : 0 ≤ n) (h1 : n < 745654) : Calls Tryd.prog 16 #[.int .i64 n] w (RetS (.tuple #[.int .i64 (Cal.cY n), .int .i64 (Cal.cM n), .int .i64 (Cal.cD n), .int .i64 0]) w) := by
  have := Date_t n w ht
  obtain ⟨e1, e2, e3, e4⟩ := dt_yes n ((isD_iff n).2 ⟨h0, h1⟩)
  rwa [e1, e2, e3, e4] at this
theorem Date_no (n : Int) (w : World) (ht : Tab w) (h : ¬ (0 ≤ n ∧ n < 745654)) : Calls Tryd.prog 16 #[.int .i64 n] w (RetS (.tuple #[.int .i64 0, .int .i64 0, .int .i64 0, .int .i64 2]) w) := by
  have := Date_t n w ht
  obtain ⟨e1, e2, e3, e4⟩ := dt_no n (decide_eq_false h)
  rwa [e1, e2, e3, e4] at this
set_option maxRecDepth 100000 in
set_option maxHeartbeats 2000000 in
theorem calendarInverts_walk (n : Int) (w : World) (_ : (Lit.int .i64 n).wf = true) (ht : Tab w) :
    Calls Tryd.prog 6 #[.int .i64 n] w (RetB (.bool true) w) := by
  have HT := Lib.hid ht
  clear ht
  by_cases hn : 0 ≤ n ∧ n < 745654
  · obtain ⟨h0, h1⟩ := hn
    have hy := Cal.cY_bd n h0 (by omega)
    have f1 := dN_c n h0 h1
    have f2 := dE_c n h0 h1
    obtain ⟨m1, m2, d1, d2, d3, d4⟩ := Cal.c_bd n h0 (by omega)
    by_cases hl : n = 745653
    · have b1 : (n + 1 == 745654) = true := by simp; omega
      clear hl
      go_enter Tryd.func6, Tryd.ntmps6
      go_wp2_with (first | (go_at_call 16; refine (Date_yes _ _ HT.out (by omega) (by omega)).mono ?_; rintro e w' ⟨rfl, rfl⟩) | (go_at_call 18; refine (Day_t _ _ _ _ HT.out).mono ?_; rintro e w' ⟨rfl, rfl⟩) | (go_at_call 17; refine (dated_any _ HT.out).mono ?_; rintro e w' ⟨rfl, rfl⟩))
      go_ret
      exact ⟨rfl, Below.refl _ _⟩
    · have b1 : (n + 1 == 745654) = false := by simp; omega
      have hx := Cal.next_c n h0 (by omega)
      have h2 : n < 745653 := by omega
      clear hl h1
      rcases hx with ⟨a, n1, n2, n3⟩ | ⟨a, b, n1, n2, n3⟩ | ⟨a, b, n1, n2, n3⟩
      · go_enter Tryd.func6, Tryd.ntmps6
        go_wp2_with (first | (go_at_call 16; refine (Date_yes _ _ HT.out (by omega) (by omega)).mono ?_; rintro e w' ⟨rfl, rfl⟩) | (go_at_call 18; refine (Day_t _ _ _ _ HT.out).mono ?_; rintro e w' ⟨rfl, rfl⟩) | (go_at_call 17; refine (dated_any _ HT.out).mono ?_; rintro e w' ⟨rfl, rfl⟩))
        go_ret
        exact ⟨rfl, Below.refl _ _⟩
      · have d28 : 28 ≤ Cal.cD n := by omega
        have q1 : ((1 : Int) == Cal.cD n + 1) = false := by simp; omega
        have q2 : (Cal.cM n + 1 == Cal.cM n) = false := by simp; omega
        clear a
        go_enter Tryd.func6, Tryd.ntmps6
        go_wp2_with (first | (go_at_call 16; refine (Date_yes _ _ HT.out (by omega) (by omega)).mono ?_; rintro e w' ⟨rfl, rfl⟩) | (go_at_call 18; refine (Day_t _ _ _ _ HT.out).mono ?_; rintro e w' ⟨rfl, rfl⟩) | (go_at_call 17; refine (dated_any _ HT.out).mono ?_; rintro e w' ⟨rfl, rfl⟩))
        go_ret
        exact ⟨rfl, Below.refl _ _⟩
      · have d28 : 28 ≤ Cal.cD n := by omega
        have q1 : (Cal.cY n + 1 == Cal.cY n) = false := by simp; omega
        have q2 : (Cal.cM n == 12) = true := by simp [b]
        clear a b
        go_enter Tryd.func6, Tryd.ntmps6
        go_wp2_with (first | (go_at_call 16; refine (Date_yes _ _ HT.out (by omega) (by omega)).mono ?_; rintro e w' ⟨rfl, rfl⟩) | (go_at_call 18; refine (Day_t _ _ _ _ HT.out).mono ?_; rintro e w' ⟨rfl, rfl⟩) | (go_at_call 17; refine (dated_any _ HT.out).mono ?_; rintro e w' ⟨rfl, rfl⟩))
        go_ret
        exact ⟨rfl, Below.refl _ _⟩
  · have HN := Lib.hid hn
    by_cases h0 : 0 ≤ n
    · have h1 : ¬ n < 745654 := by omega
      clear hn
      go_enter Tryd.func6, Tryd.ntmps6
      go_wp2_with (first | (go_at_call 16; refine (Date_no _ _ HT.out HN.out).mono ?_; rintro e w' ⟨rfl, rfl⟩) | (go_at_call 17; refine (dated_any _ HT.out).mono ?_; rintro e w' ⟨rfl, rfl⟩))
      go_ret
      exact ⟨rfl, Below.refl _ _⟩
    · clear hn
      go_enter Tryd.func6, Tryd.ntmps6
      go_wp2_with (first | (go_at_call 16; refine (Date_no _ _ HT.out HN.out).mono ?_; rintro e w' ⟨rfl, rfl⟩) | (go_at_call 17; refine (dated_any _ HT.out).mono ?_; rintro e w' ⟨rfl, rfl⟩))
      go_ret
      exact ⟨rfl, Below.refl _ _⟩

/-! The law CalendarAges -/
theorem age_step {b n : Int} (h : ageE b n = 0) (hn : n < 745653) : ageE b (n + 1) = 0 ∧ ageN b n ≤ ageN b (n + 1) ∧ ageN b (n + 1) ≤ ageN b n + 1 := by
  have hB : ageB b n = true := by
    unfold ageE at h
    by_cases c : ageB b n = true
    · exact c
    · rw [if_neg c] at h; omega
  obtain ⟨h0, h1, h2, h3, h4⟩ := age_cases hB
  have hB2 : ageB b (n + 1) = true := by unfold ageB isD; rw [decide_eq_true ⟨h0, h1⟩, decide_eq_true ⟨(by omega : 0 ≤ n + 1), (by omega : n + 1 < 745654)⟩, decide_eq_true (by omega)]; rfl
  have e1 : ageN b n = ageY b n := by unfold ageN; rw [hB]; rfl
  have e2 : ageN b (n + 1) = ageY b (n + 1) := by unfold ageN; rw [hB2]; rfl
  refine ⟨by unfold ageE; rw [hB2]; rfl, ?_⟩
  rw [e1, e2]
  obtain ⟨m1, m2, d1, d2, d3, d4⟩ := Cal.c_bd n h2 (by omega)
  obtain ⟨bm1, bm2, bd1, bd2, bd3, bd4⟩ := Cal.c_bd b h0 (by omega)
  have hx := Cal.next_c n h2 (by omega)
  have l12 := Cal.len_12 (Cal.cY n)
  unfold ageY
  rcases hx with ⟨a, n1, n2, n3⟩ | ⟨a, c, n1, n2, n3⟩ | ⟨a, c, n1, n2, n3⟩
  · rw [n1, n2, n3]; split <;> split <;> omega
  · rw [n1, n2, n3]; split <;> split <;> omega
  · rw [c, l12] at a
    rw [n1, n2, n3, c, a]; split <;> split <;> omega
theorem ageN_bd (b n : Int) : -10000 ≤ ageN b n ∧ ageN b n ≤ 10000 := by
  unfold ageN
  by_cases c : ageB b n = true
  · rw [if_pos c]
    obtain ⟨h0, h1, h2, h3, h4⟩ := age_cases c
    have := Cal.cY_bd b h0 (by omega)
    have := Cal.cY_bd n h2 (by omega)
    unfold ageY; split <;> omega
  · rw [if_neg c]; omega
set_option maxRecDepth 100000 in
set_option maxHeartbeats 2000000 in
theorem calendarAges_walk (b n : Int) (w : World) (_ : (Lit.int .i64 b).wf = true) (_ : (Lit.int .i64 n).wf = true) (ht : Tab w) :
    Calls Tryd.prog 3 #[.int .i64 b, .int .i64 n] w (RetB (.bool true) w) := by
  have hbel := Below.refl w.heap.size w
  have HT := Lib.hid ht
  clear ht
  have e1 : ageN 31 397 = 1 := by decide
  have e2 : ageE 31 397 = 0 := by decide
  have ab := ageN_bd b n
  by_cases h : ageE b n = 0
  · have b1 : (ageE b n == 0) = true := by simp [h]
    by_cases hn : n < 745653
    · obtain ⟨s1, s2, s3⟩ := age_step h hn
      have b2 : (ageE b (n + 1) != 0) = false := by simp [s1]
      have hw : 0 ≤ n := by
        by_cases c : ageB b n = true
        · have := age_cases c; omega
        · unfold ageE at h; rw [if_neg c] at h; omega
      clear h s1
      go_enter Tryd.func3, Tryd.ntmps3
      go_wp2_with (first | (go_at_call 12; refine (Age_any _ _ _ (HT.out.grow hbel)).mono ?_; rintro e w1 ⟨rfl, hb1⟩; replace hbel := hbel.trans (hb1.mono hbel.size); clear hb1) | (go_at_call 13; refine (rAge_any _ _ _ trivial).mono ?_; rintro e w1 ⟨rfl, hb1⟩; replace hbel := hbel.trans (hb1.mono hbel.size); clear hb1))
      go_ret
      exact ⟨rfl, hbel⟩
    · clear h
      go_enter Tryd.func3, Tryd.ntmps3
      go_wp2_with (first | (go_at_call 12; refine (Age_any _ _ _ (HT.out.grow hbel)).mono ?_; rintro e w1 ⟨rfl, hb1⟩; replace hbel := hbel.trans (hb1.mono hbel.size); clear hb1) | (go_at_call 13; refine (rAge_any _ _ _ trivial).mono ?_; rintro e w1 ⟨rfl, hb1⟩; replace hbel := hbel.trans (hb1.mono hbel.size); clear hb1))
      go_ret
      exact ⟨rfl, hbel⟩
  · have b1 : (ageE b n == 0) = false := by simp [h]
    clear h
    go_enter Tryd.func3, Tryd.ntmps3
    go_wp2_with (first | (go_at_call 12; refine (Age_any _ _ _ (HT.out.grow hbel)).mono ?_; rintro e w1 ⟨rfl, hb1⟩; replace hbel := hbel.trans (hb1.mono hbel.size); clear hb1) | (go_at_call 13; refine (rAge_any _ _ _ trivial).mono ?_; rintro e w1 ⟨rfl, hb1⟩; replace hbel := hbel.trans (hb1.mono hbel.size); clear hb1))
    go_ret
    exact ⟨rfl, hbel⟩
end Go.Proofs.YtmncocmdobondaaDoor
