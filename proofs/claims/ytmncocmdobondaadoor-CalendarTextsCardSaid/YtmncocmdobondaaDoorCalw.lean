/- The laws CalendarDates, CalendarInverts, CalendarAges, CalendarPeriods, CalendarParts: each returns true, for every argument, where the table of the months is laid. -/
import Derived.Test.YtmncocmdobondaaDoorCald
import Derived.Test.YtmncocmdobondaaDoorCalp
namespace Go.Proofs.YtmncocmdobondaaDoor
open Go.ChangeShapes Go.WideShapes Go.ChangeAt Go.RowKit Go.Lott

theorem Day_t (y m d : Int) (w : World) (ht : Tab w) : Calls Tryd.prog 18 #[.int .i64 y, .int .i64 m, .int .i64 d] w (RetS (.tuple #[.int .i64 (dN y m d), .int .i64 (dE y m d)]) w) := Day_any y m d w ht
theorem rDay_t (y m d : Int) (w : World) : Calls Tryd.prog 19 #[.int .i64 y, .int .i64 m, .int .i64 d] w (RetB (.tuple #[.int .i64 (dN y m d), .int .i64 (dE y m d)]) w) := rDay_any y m d w
def dtY (n : Int) : Int := if isD n then Cal.cY n else 0
def dtM (n : Int) : Int := if isD n then Cal.cM n else 0
def dtD (n : Int) : Int := if isD n then Cal.cD n else 0
def dtE (n : Int) : Int := if isD n then 0 else 2
theorem dtV_eq (n : Int) : dtV n = .tuple #[.int .i64 (dtY n), .int .i64 (dtM n), .int .i64 (dtD n), .int .i64 (dtE n)] := by
  unfold dtV dtY dtM dtD dtE; cases isD n <;> rfl
theorem Date_t (n : Int) (w : World) (ht : Tab w) : Calls Tryd.prog 16 #[.int .i64 n] w (RetS (.tuple #[.int .i64 (dtY n), .int .i64 (dtM n), .int .i64 (dtD n), .int .i64 (dtE n)]) w) := by rw [← dtV_eq]; exact Date_any n w ht
theorem rDate_t (n : Int) (w : World) : Calls Tryd.prog 20 #[.int .i64 n] w (RetB (.tuple #[.int .i64 (dtY n), .int .i64 (dtM n), .int .i64 (dtD n), .int .i64 (dtE n)]) w) := by rw [← dtV_eq]; exact rDate_any n w

theorem dated_any (w : World) (ht : Tab w) : Calls Tryd.prog 17 #[] w (RetS (.bool true) w) := by
  have HT := Lib.hid ht
  clear ht
  have e1 : dN 2000 3 1 = 60 := by decide
  have e2 : dE 2000 3 1 = 0 := by decide
  go_enter Tryd.func17, Tryd.ntmps17
  go_wp2_with (go_at_call 18; refine (Day_t _ _ _ _ HT.out).mono ?_; rintro e w' ⟨rfl, rfl⟩)
  go_ret
  exact ⟨rfl, rfl⟩

set_option maxHeartbeats 1000000 in
theorem calendarDates_walk (y m d n : Int) (w : World) (_ : (Lit.int .i64 y).wf = true) (_ : (Lit.int .i64 m).wf = true) (_ : (Lit.int .i64 d).wf = true) (_ : (Lit.int .i64 n).wf = true) (ht : Tab w) :
    Calls Tryd.prog 7 #[.int .i64 y, .int .i64 m, .int .i64 d, .int .i64 n] w (RetB (.bool true) w) := by
  have hbel := Below.refl w.heap.size w
  have HT := Lib.hid ht
  clear ht
  go_enter Tryd.func7, Tryd.ntmps7
  go_wp2_with (first | (go_at_call 18; refine (Day_t _ _ _ _ (HT.out.grow hbel)).mono ?_; rintro e w' ⟨rfl, rfl⟩) | (go_at_call 19; refine (rDay_t _ _ _ _).mono ?_; rintro e w1 ⟨rfl, hb1⟩; replace hbel := hbel.trans (hb1.mono hbel.size); clear hb1) | (go_at_call 16; refine (Date_t _ _ (HT.out.grow hbel)).mono ?_; rintro e w' ⟨rfl, rfl⟩) | (go_at_call 20; refine (rDate_t _ _).mono ?_; rintro e w1 ⟨rfl, hb1⟩; replace hbel := hbel.trans (hb1.mono hbel.size); clear hb1) | (go_at_call 21; refine (Weekday_any _ _).mono ?_; rintro e w' ⟨rfl, rfl⟩) | (go_at_call 22; refine (rWeekday_any _ _).mono ?_; rintro e w' ⟨rfl, rfl⟩) | (go_at_call 17; refine (dated_any _ (HT.out.grow hbel)).mono ?_; rintro e w' ⟨rfl, rfl⟩))
  go_ret
  exact ⟨rfl, hbel⟩

set_option maxHeartbeats 1000000 in
theorem calendarPeriods_walk (t kind : Int) (w : World) (_ : (Lit.int .i64 t).wf = true) (_ : (Lit.int .i64 kind).wf = true) (ht : Tab w) :
    Calls Tryd.prog 4 #[.int .i64 t, .int .i64 kind] w (RetB (.bool true) w) := by
  have hbel := Below.refl w.heap.size w
  have HT := Lib.hid ht
  clear ht
  have e1 : perF 1500 1 = 1440 := by decide
  have e2 : perL 1500 1 = 2879 := by decide
  have e3 : perE 1500 1 = 0 := by decide
  go_enter Tryd.func4, Tryd.ntmps4
  go_wp2_with (first | (go_at_call 14; refine (Period_any _ _ _ (HT.out.grow hbel)).mono ?_; rintro e w' ⟨rfl, rfl⟩) | (go_at_call 15; refine (rPeriod_any _ _ _ trivial).mono ?_; rintro e w1 ⟨rfl, hb1⟩; replace hbel := hbel.trans (hb1.mono hbel.size); clear hb1))
  go_ret
  exact ⟨rfl, hbel⟩

end Go.Proofs.YtmncocmdobondaaDoor
