/- Period of package calendar and of its reference: both compute the same plain functions. -/
import Derived.Test.YtainelkenkgppaaDoorCalc
namespace Go.Proofs.YtainelkenkgppaaDoor
open Go.ChangeShapes Go.WideShapes Go.ChangeAt Go.RowKit Go.Lott

def pFirst (t kind : Int) : Int := if kind = 2 then t / 1440 - (t / 1440 + 5) % 7 else if kind = 3 then t / 1440 - Cal.cD (t / 1440) + 1 else t / 1440
def pDays (t kind : Int) : Int := if kind = 2 then 7 else if kind = 3 then Cal.len (Cal.cY (t / 1440)) (Cal.cM (t / 1440)) else 1
def perB (t kind : Int) : Bool := isT t && decide (1 ≤ kind ∧ kind ≤ 3)
def perF (t kind : Int) : Int := if perB t kind then (if 1440 * pFirst t kind < 0 then 0 else 1440 * pFirst t kind) else 0
def perL (t kind : Int) : Int := if perB t kind then (if 1073741824 < 1440 * (pFirst t kind + pDays t kind) - 1 then 1073741824 else 1440 * (pFirst t kind + pDays t kind) - 1) else 0
def perE (t kind : Int) : Int := if isT t then (if 1 ≤ kind ∧ kind ≤ 3 then 0 else 7) else 2
theorem perF_yes {t k f : Int} (h : isT t = true) (h1 : 1 ≤ k) (h2 : k ≤ 3) (hf : pFirst t k = f) : perF t k = if 1440 * f < 0 then 0 else 1440 * f := by
  unfold perF perB; rw [h, decide_eq_true ⟨h1, h2⟩, hf]; rfl
theorem perL_yes {t k f d : Int} (h : isT t = true) (h1 : 1 ≤ k) (h2 : k ≤ 3) (hf : pFirst t k = f) (hd : pDays t k = d) : perL t k = if 1073741824 < 1440 * (f + d) - 1 then 1073741824 else 1440 * (f + d) - 1 := by
  unfold perL perB; rw [h, decide_eq_true ⟨h1, h2⟩, hf, hd]; rfl
theorem perE_yes {t k : Int} (h : isT t = true) (h1 : 1 ≤ k) (h2 : k ≤ 3) : perE t k = 0 := by unfold perE; rw [h, if_pos rfl, if_pos ⟨h1, h2⟩]
theorem per_type {t k : Int} (h : isT t = true) (hk : ¬ (1 ≤ k ∧ k ≤ 3)) : 0 = perF t k ∧ 0 = perL t k ∧ 7 = perE t k := by
  unfold perF perL perE perB; rw [h, decide_eq_false hk, if_neg hk]; exact ⟨rfl, rfl, rfl⟩
theorem per_range {t k : Int} (h : isT t = false) : 0 = perF t k ∧ 0 = perL t k ∧ 2 = perE t k := by
  unfold perF perL perE perB; rw [h]; exact ⟨rfl, rfl, rfl⟩
set_option maxHeartbeats 1000000 in
theorem Period_any (t kind : Int) (w : World) (ht : Tab w) : Calls Tryd.prog 32 #[.int .i64 t, .int .i64 kind] w (RetS (.tuple #[.int .i64 (perF t kind), .int .i64 (perL t kind), .int .i64 (perE t kind)]) w) := by
  have HT := Lib.hid ht; clear ht
  by_cases hd : isT t = true
  · have hr : 0 ≤ t ∧ t ≤ 1073741824 := by simpa [isT] using hd
    have HD := Lib.hid hd
    obtain ⟨h0, h1⟩ := hr
    have hdat := Cal.isDate_c (t / 1440) (by omega) (by omega)
    have hy := Cal.cY_bd (t / 1440) (by omega) (by omega)
    have hm0 := hdat.m0
    have hm1 := hdat.m1
    have hl := Cal.len_bd (Cal.cY (t / 1440)) (Cal.cM (t / 1440)) hm0 hm1
    have hd0 := hdat.d0
    have hd1 := hdat.d1
    clear hdat
    by_cases k1 : kind = 1
    · subst k1
      have HF := Lib.hid (perF_yes hd (k := 1) (by omega) (by omega) rfl)
      have HL := Lib.hid (perL_yes hd (k := 1) (by omega) (by omega) rfl rfl)
      have HE := Lib.hid (perE_yes hd (k := 1) (by omega) (by omega))
      have e1 : Hid (pFirst t 1 = t / 1440 ∧ pDays t 1 = 1) := Lib.hid ⟨rfl, rfl⟩
      rw [e1.out.1] at HF HL
      rw [e1.out.2] at HL
      go_enter Tryd.func32, Tryd.ntmps32
      go_wp2_with (first | (go_at_call 60; refine (isTime_any _ _).mono ?_; rintro e w' ⟨rfl, rfl⟩) | (go_at_call 59; refine (dateOf_t _ _ HT.out (by omega) (by omega)).mono ?_; rintro e w' ⟨rfl, rfl⟩) | (go_at_call 62; refine (len_any _ _ _ HT.out (by omega) (by omega) (by omega)).mono ?_; rintro e w' ⟨rfl, rfl⟩) | (go_at_call 61; refine (wday_any _ _ (by omega) (by omega)).mono ?_; rintro e w' ⟨rfl, rfl⟩))
      all_goals
        go_ret3
        refine ⟨ret_three ?_ ?_ HE.out.symm, rfl⟩
        · rw [HF.out]; split <;> omega
        · rw [HL.out]; split <;> omega
    · by_cases k2 : kind = 2
      · subst k2
        have HF := Lib.hid (perF_yes hd (k := 2) (by omega) (by omega) rfl)
        have HL := Lib.hid (perL_yes hd (k := 2) (by omega) (by omega) rfl rfl)
        have HE := Lib.hid (perE_yes hd (k := 2) (by omega) (by omega))
        have e1 : Hid (pFirst t 2 = t / 1440 - (t / 1440 + 5) % 7 ∧ pDays t 2 = 7) := Lib.hid ⟨rfl, rfl⟩
        rw [e1.out.1] at HF HL
        rw [e1.out.2] at HL
        go_enter Tryd.func32, Tryd.ntmps32
        go_wp2_with (first | (go_at_call 60; refine (isTime_any _ _).mono ?_; rintro e w' ⟨rfl, rfl⟩) | (go_at_call 59; refine (dateOf_t _ _ HT.out (by omega) (by omega)).mono ?_; rintro e w' ⟨rfl, rfl⟩) | (go_at_call 62; refine (len_any _ _ _ HT.out (by omega) (by omega) (by omega)).mono ?_; rintro e w' ⟨rfl, rfl⟩) | (go_at_call 61; refine (wday_any _ _ (by omega) (by omega)).mono ?_; rintro e w' ⟨rfl, rfl⟩))
        all_goals
          go_ret3
          refine ⟨ret_three ?_ ?_ HE.out.symm, rfl⟩
          · rw [HF.out]; split <;> omega
          · rw [HL.out]; split <;> omega
      · by_cases k3 : kind = 3
        · subst k3
          have HF := Lib.hid (perF_yes hd (k := 3) (by omega) (by omega) rfl)
          have HL := Lib.hid (perL_yes hd (k := 3) (by omega) (by omega) rfl rfl)
          have HE := Lib.hid (perE_yes hd (k := 3) (by omega) (by omega))
          have e1 : Hid (pFirst t 3 = t / 1440 - Cal.cD (t / 1440) + 1 ∧ pDays t 3 = Cal.len (Cal.cY (t / 1440)) (Cal.cM (t / 1440))) := Lib.hid ⟨rfl, rfl⟩
          rw [e1.out.1] at HF HL
          rw [e1.out.2] at HL
          go_enter Tryd.func32, Tryd.ntmps32
          go_wp2_with (first | (go_at_call 60; refine (isTime_any _ _).mono ?_; rintro e w' ⟨rfl, rfl⟩) | (go_at_call 59; refine (dateOf_t _ _ HT.out (by omega) (by omega)).mono ?_; rintro e w' ⟨rfl, rfl⟩) | (go_at_call 62; refine (len_any _ _ _ HT.out (by omega) (by omega) (by omega)).mono ?_; rintro e w' ⟨rfl, rfl⟩) | (go_at_call 61; refine (wday_any _ _ (by omega) (by omega)).mono ?_; rintro e w' ⟨rfl, rfl⟩))
          all_goals
            go_ret3
            refine ⟨ret_three ?_ ?_ HE.out.symm, rfl⟩
            · rw [HF.out]; split <;> omega
            · rw [HL.out]; split <;> omega
        · have b1 : (kind == 1) = false := by simp [k1]
          have b2 : (kind == 2) = false := by simp [k2]
          have b3 : (kind == 3) = false := by simp [k3]
          have b4 : (kind != 1) = true := by simp [k1]
          have HP := Lib.hid (per_type (t := t) (k := kind) hd (by omega))
          clear k1 k2 k3
          go_enter Tryd.func32, Tryd.ntmps32
          go_wp2_with ((go_at_call 60; refine (isTime_any _ _).mono ?_; rintro e w' ⟨rfl, rfl⟩))
          go_ret3
          exact ⟨ret_three HP.out.1 HP.out.2.1 HP.out.2.2, rfl⟩
  · have hd' : isT t = false := by simpa using hd
    have HP := Lib.hid (per_range (k := kind) hd')
    clear hd
    go_enter Tryd.func32, Tryd.ntmps32
    go_wp2_with ((go_at_call 60; refine (isTime_any _ _).mono ?_; rintro e w' ⟨rfl, rfl⟩))
    go_ret3
    exact ⟨ret_three HP.out.1 HP.out.2.1 HP.out.2.2, rfl⟩
set_option maxHeartbeats 1000000 in
theorem rPeriod_any (t kind : Int) (w : World) (_ : True) : Calls Tryd.prog 82 #[.int .i64 t, .int .i64 kind] w (RetB (.tuple #[.int .i64 (perF t kind), .int .i64 (perL t kind), .int .i64 (perE t kind)]) w) := by
  have hbel := Below.refl w.heap.size w
  by_cases hd : isT t = true
  · have hr : 0 ≤ t ∧ t ≤ 1073741824 := by simpa [isT] using hd
    have HD := Lib.hid hd
    obtain ⟨h0, h1⟩ := hr
    have hdat := Cal.isDate_c (t / 1440) (by omega) (by omega)
    have hy := Cal.cY_bd (t / 1440) (by omega) (by omega)
    have hm0 := hdat.m0
    have hm1 := hdat.m1
    have hl := Cal.len_bd (Cal.cY (t / 1440)) (Cal.cM (t / 1440)) hm0 hm1
    have hd0 := hdat.d0
    have hd1 := hdat.d1
    clear hdat
    by_cases k1 : kind = 1
    · subst k1
      have HF := Lib.hid (perF_yes hd (k := 1) (by omega) (by omega) rfl)
      have HL := Lib.hid (perL_yes hd (k := 1) (by omega) (by omega) rfl rfl)
      have HE := Lib.hid (perE_yes hd (k := 1) (by omega) (by omega))
      have e1 : Hid (pFirst t 1 = t / 1440 ∧ pDays t 1 = 1) := Lib.hid ⟨rfl, rfl⟩
      rw [e1.out.1] at HF HL
      rw [e1.out.2] at HL
      go_enter Tryd.func82, Tryd.ntmps82
      go_wp2_with (first | (go_at_call 87; refine (rIsTime_any _ _).mono ?_; rintro e w' ⟨rfl, rfl⟩) | (go_at_call 84; refine (civil_t _ _ (by omega) (by omega)).mono ?_; rintro e w1 ⟨rfl, hb1⟩; replace hbel := hbel.trans (hb1.mono hbel.size); clear hb1) | (go_at_call 89; refine (rLen_any _ _ _ (by omega) (by omega) (by omega)).mono ?_; rintro e w1 ⟨rfl, hb1⟩; replace hbel := hbel.trans (hb1.mono hbel.size); clear hb1) | (go_at_call 88; refine (rOn_any _ _ (by omega) (by omega)).mono ?_; rintro e w' ⟨rfl, rfl⟩))
      all_goals
        go_ret3
        refine ⟨ret_three ?_ ?_ HE.out.symm, hbel⟩
        · rw [HF.out]; split <;> omega
        · rw [HL.out]; split <;> omega
    · by_cases k2 : kind = 2
      · subst k2
        have HF := Lib.hid (perF_yes hd (k := 2) (by omega) (by omega) rfl)
        have HL := Lib.hid (perL_yes hd (k := 2) (by omega) (by omega) rfl rfl)
        have HE := Lib.hid (perE_yes hd (k := 2) (by omega) (by omega))
        have e1 : Hid (pFirst t 2 = t / 1440 - (t / 1440 + 5) % 7 ∧ pDays t 2 = 7) := Lib.hid ⟨rfl, rfl⟩
        rw [e1.out.1] at HF HL
        rw [e1.out.2] at HL
        go_enter Tryd.func82, Tryd.ntmps82
        go_wp2_with (first | (go_at_call 87; refine (rIsTime_any _ _).mono ?_; rintro e w' ⟨rfl, rfl⟩) | (go_at_call 84; refine (civil_t _ _ (by omega) (by omega)).mono ?_; rintro e w1 ⟨rfl, hb1⟩; replace hbel := hbel.trans (hb1.mono hbel.size); clear hb1) | (go_at_call 89; refine (rLen_any _ _ _ (by omega) (by omega) (by omega)).mono ?_; rintro e w1 ⟨rfl, hb1⟩; replace hbel := hbel.trans (hb1.mono hbel.size); clear hb1) | (go_at_call 88; refine (rOn_any _ _ (by omega) (by omega)).mono ?_; rintro e w' ⟨rfl, rfl⟩))
        all_goals
          go_ret3
          refine ⟨ret_three ?_ ?_ HE.out.symm, hbel⟩
          · rw [HF.out]; split <;> omega
          · rw [HL.out]; split <;> omega
      · by_cases k3 : kind = 3
        · subst k3
          have HF := Lib.hid (perF_yes hd (k := 3) (by omega) (by omega) rfl)
          have HL := Lib.hid (perL_yes hd (k := 3) (by omega) (by omega) rfl rfl)
          have HE := Lib.hid (perE_yes hd (k := 3) (by omega) (by omega))
          have e1 : Hid (pFirst t 3 = t / 1440 - Cal.cD (t / 1440) + 1 ∧ pDays t 3 = Cal.len (Cal.cY (t / 1440)) (Cal.cM (t / 1440))) := Lib.hid ⟨rfl, rfl⟩
          rw [e1.out.1] at HF HL
          rw [e1.out.2] at HL
          go_enter Tryd.func82, Tryd.ntmps82
          go_wp2_with (first | (go_at_call 87; refine (rIsTime_any _ _).mono ?_; rintro e w' ⟨rfl, rfl⟩) | (go_at_call 84; refine (civil_t _ _ (by omega) (by omega)).mono ?_; rintro e w1 ⟨rfl, hb1⟩; replace hbel := hbel.trans (hb1.mono hbel.size); clear hb1) | (go_at_call 89; refine (rLen_any _ _ _ (by omega) (by omega) (by omega)).mono ?_; rintro e w1 ⟨rfl, hb1⟩; replace hbel := hbel.trans (hb1.mono hbel.size); clear hb1) | (go_at_call 88; refine (rOn_any _ _ (by omega) (by omega)).mono ?_; rintro e w' ⟨rfl, rfl⟩))
          all_goals
            go_ret3
            refine ⟨ret_three ?_ ?_ HE.out.symm, hbel⟩
            · rw [HF.out]; split <;> omega
            · rw [HL.out]; split <;> omega
        · have b1 : (kind == 1) = false := by simp [k1]
          have b2 : (kind == 2) = false := by simp [k2]
          have b3 : (kind == 3) = false := by simp [k3]
          have b4 : (kind != 1) = true := by simp [k1]
          have HP := Lib.hid (per_type (t := t) (k := kind) hd (by omega))
          clear k1 k2 k3
          go_enter Tryd.func82, Tryd.ntmps82
          go_wp2_with ((go_at_call 87; refine (rIsTime_any _ _).mono ?_; rintro e w' ⟨rfl, rfl⟩))
          go_ret3
          exact ⟨ret_three HP.out.1 HP.out.2.1 HP.out.2.2, hbel⟩
  · have hd' : isT t = false := by simpa using hd
    have HP := Lib.hid (per_range (k := kind) hd')
    clear hd
    go_enter Tryd.func82, Tryd.ntmps82
    go_wp2_with ((go_at_call 87; refine (rIsTime_any _ _).mono ?_; rintro e w' ⟨rfl, rfl⟩))
    go_ret3
    exact ⟨ret_three HP.out.1 HP.out.2.1 HP.out.2.2, hbel⟩
end Go.Proofs.YtainelkenkgppaaDoor
