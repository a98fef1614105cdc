/- Parse of the reference of package calendar: it computes the same plain function. -/
import Derived.Test.YtmncocmdobondaaDoorCalg
import Derived.Test.YtmncocmdobondaaDoorKitb
import Derived.Deep.RegionHeld3
import Derived.Deep.AppendLies
namespace Go.Proofs.YtmncocmdobondaaDoor
open Go.ChangeShapes Go.WideShapes Go.ChangeAt Go.RowKit Go.Lott

theorem info3 : (Tryd.prog.info? 3).map (fun i => (i.zero, i.size, i.bytes)) = some (some (.int .i64 0), 1, 8) := by kernel_rfl
def wx (x y : Int) : Int := IntKind.i64.wrap (IntKind.i64.wrap (IntKind.i64.wrap (10 * IntKind.i64.wrap (IntKind.i64.wrap x - 48)) + IntKind.i64.wrap y) - 48)
theorem wex {x y : Int} (h1 : 48 ≤ x) (h2 : x ≤ 57) (h3 : 48 ≤ y) (h4 : y ≤ 57) : wx x y = 10 * (x - 48) + y - 48 := by
  unfold wx
  rw [IntWalk.i64_in x (by omega), IntWalk.i64_in y (by omega), IntWalk.i64_in (x - 48) (by omega), IntWalk.i64_in (10 * (x - 48)) (by omega), IntWalk.i64_in (10 * (x - 48) + y) (by omega), IntWalk.i64_in _ (by omega)]
def prs (s : ByteArray) : List Int := [pr s 0, pr s 2, pr s 5, pr s 8, pr s 11, pr s 14]
def prV (s : ByteArray) (k : Nat) : List Value := ((prs s).take k).map (Value.int .i64)
/-- Six numbers lie in block g. -/
def Six (w : World) (g : Nat) (s : ByteArray) : Prop := ∀ i, i < 6 → w.cell? ⟨g, i, none⟩ = some (.int .i64 ((prs s).getD i 0))
theorem Six.below {w w1 : World} {g : Nat} {s : ByteArray} (h : Six w g s) {B : Nat} (hb : Below B w w1) (hg : g < B) : Six w1 g s := fun i hi => by rw [hb.cell (p := ⟨g, i, none⟩) hg]; exact h i hi
theorem six_of {w : World} {base e : Nat} {v : Value} {s : ByteArray} (h : w.ownsRow base e 1 v 6 (prV s 6)) : ∃ g cap, v = .slice (some ⟨g, 0, none⟩) 6 cap ∧ g < w.heap.size ∧ Six w g s := by
  rcases h.2 with ⟨_, h6⟩ | ⟨g, cap, cur, hv, hg, hh, hc1, hc2, hc3, hc4⟩
  · omega
  · refine ⟨g, cap, hv, ?_, fun i hi => ?_⟩
    · by_cases hlt : g < w.heap.size
      · exact hlt
      · rw [Array.getElem?_eq_none (by omega)] at hh; cases hh
    · have hsz : i < cur.size := by omega
      have e1 : cur[i]? = some (.int .i64 ((prs s).getD i 0)) := by
        have := congrArg (fun l => l[i]?) hc4
        simp only [List.getElem?_take, Nat.mul_one, if_pos hi] at this
        rw [Array.getElem?_toList] at this
        rw [this]
        rcases (show i = 0 ∨ i = 1 ∨ i = 2 ∨ i = 3 ∨ i = 4 ∨ i = 5 by omega) with rfl | rfl | rfl | rfl | rfl | rfl <;> rfl
      simp [World.cell?, hh, e1]
theorem Six.sub {w : World} {g : Nat} {s : ByteArray} (h : Six w g s) {B : Nat} (hg : g < B) :
    (∀ x : Sub B w, x.w.cell? ⟨g, 0, none⟩ = some (.int .i64 (pr s 0))) ∧ (∀ x : Sub B w, x.w.cell? ⟨g, 1, none⟩ = some (.int .i64 (pr s 2))) ∧ (∀ x : Sub B w, x.w.cell? ⟨g, 2, none⟩ = some (.int .i64 (pr s 5))) ∧
    (∀ x : Sub B w, x.w.cell? ⟨g, 3, none⟩ = some (.int .i64 (pr s 8))) ∧ (∀ x : Sub B w, x.w.cell? ⟨g, 4, none⟩ = some (.int .i64 (pr s 11))) ∧ (∀ x : Sub B w, x.w.cell? ⟨g, 5, none⟩ = some (.int .i64 (pr s 14))) :=
  ⟨Sub.cell (h 0 (by omega)) hg, Sub.cell (h 1 (by omega)) hg, Sub.cell (h 2 (by omega)) hg, Sub.cell (h 3 (by omega)) hg, Sub.cell (h 4 (by omega)) hg, Sub.cell (h 5 (by omega)) hg⟩
set_option maxRecDepth 100000 in
set_option maxHeartbeats 16000000 in
theorem rParse_loop (s : ByteArray) (w : World) (h1 : 16 ≤ s.size) (h2 : s.size ≤ 16) : Calls Tryd.prog 29 #[.string s] w (RetB (.tuple #[.int .i64 (pN s), .int .i64 (pE s)]) w) := by
  have hsz : ((s.size : Int) != 16) = false := by rw [bne_eq_false_iff_eq]; omega
  go_enter Tryd.func29, Tryd.ntmps29
  go_wp2
  go_loopw [5] (fun i wr => ∃ k : Nat, k ≤ 16 ∧ i = .int .i64 k ∧ (∀ j, j < k → okAt s j = true) ∧ Below w.heap.size w wr) (fun i _ => 16 - (intOf i).toNat)
  case atStart => exact ⟨0, by omega, rfl, by omega, Below.refl _ _⟩
  case round =>
    obtain ⟨k, hk, rfl, hok, hb⟩ := hrel
    have HO := Lib.hid hok
    clear hok
    by_cases h16 : k = 16
    · subst h16
      have HA := Lib.hid (okAll_of HO.out)
      clear HO
      go_wp2_with fail
      obtain ⟨wo, hwo⟩ : ∃ wo : World, wo = wr := ⟨_, rfl⟩
      subst hwo
      go_loopw [7, 8] (fun v i wr => ∃ k : Nat, k ≤ 6 ∧ i = .int .i64 k ∧ wr.ownsRow (wo.heap.size + 1) 3 1 v k (prV s k) ∧ Below (wo.heap.size + 1) (wo.alloc (.cells #[.int .i64 0, .int .i64 2, .int .i64 5, .int .i64 8, .int .i64 11, .int .i64 14] 3)) wr) (fun _ i _ => 6 - (intOf i).toNat)
      case atStart => exact ⟨0, by omega, rfl, ⟨rfl, .inl ⟨rfl, rfl⟩⟩, Below.refl _ _⟩
      case round =>
        obtain ⟨k, hk, rfl, hown, hb2⟩ := hrel
        by_cases h6 : k = 6
        · subst h6
          obtain ⟨g, cap, hv, hgl, hsix⟩ := six_of hown
          subst hv
          have H6 := Lib.hid hsix
          clear hown hsix
          have hbel : Below w.heap.size w wr := hb.trans (((Below.refl wo.heap.size wo).alloc (Nat.le_refl _) _).trans (hb2.mono (by omega)) |>.mono hb.size)
          have HS := Lib.hid (show s.size = 16 by omega)
          obtain ⟨q0, q2, q5, q8, q11, q14⟩ := prs_bd HA.out
          obtain ⟨f0, f1, f2, f3, f4, f5⟩ := H6.out.sub hgl
          go_wp2
          refine wp_region_below (by kernel_rfl) (by kernel_rfl) ?_
          repeat (go_big_quiet_step (fail))
          refine wpQuiet_nil ?_
          rintro w1 ⟨⟨_, hb1⟩, rfl⟩
          go_wp2
          clear f0 f1 f2 f3 f4 f5
          have hgl1 : g < w1.heap.size := Nat.lt_of_lt_of_le hgl hb1.size
          have h6b := H6.out.below hb1 hgl
          have hbel1 := hbel.trans (hb1.mono hbel.size)
          obtain ⟨f0, f1, f2, f3, f4, f5⟩ := h6b.sub hgl1
          by_cases hx : exB (100 * pr s 0 + pr s 2) (pr s 5) (pr s 8) = true
          · have hn := num_bd hx
            have hbd := exB_bd hx
            have HX := Lib.hid (show exB (pY s) (pr s 5) (pr s 8) = true from hx)
            by_cases hh : pr s 11 ≤ 23
            · by_cases hm : pr s 14 ≤ 59
              · have HP := Lib.hid (show pOk s = true by unfold pOk; rw [HX.out, decide_eq_true hh, decide_eq_true hm]; rfl)
                have d1 : decide (23 < pr s 11) = false := decide_eq_false (by omega)
                have d2 : decide (59 < pr s 14) = false := decide_eq_false (by omega)
                refine wp_region_below (by kernel_rfl) (by kernel_rfl) ?_
                repeat (go_big_quiet_step ((go_at_call 47; exact Sub.ofB _ (by simp) (exists_any _ _ _ _))))
                refine wpQuiet_nil ?_
                rintro w2 ⟨⟨_, hb2'⟩, rfl⟩
                go_wp2
                clear f0 f1 f2 f3 f4 f5
                have hgl2 : g < w2.heap.size := Nat.lt_of_lt_of_le hgl1 hb2'.size
                have h6c := h6b.below hb2' hgl1
                have hbel2 := hbel1.trans (hb2'.mono hbel1.size)
                obtain ⟨f0, f1, f2, f3, f4, f5⟩ := h6c.sub hgl2
                by_cases hl : 1440 * Cal.num (100 * pr s 0 + pr s 2) (pr s 5) (pr s 8) + 60 * pr s 11 + pr s 14 ≤ 1073741824
                · have HF := Lib.hid (p_fine HS.out HA.out HP.out (by unfold pT; exact hl))
                  refine wp_region_below (by kernel_rfl) (by kernel_rfl) ?_
                  repeat (go_big_quiet_step ((go_at_call 48; exact Sub.ofB _ (by simp) (number_any _ _ _ _ (by omega) (by omega) (by omega) (by omega) (by omega) (by omega)))))
                  refine wpQuiet_nil ?_
                  rintro w3 ⟨⟨_, hb3'⟩, rfl⟩
                  go_wp2
                  go_ret2
                  exact ⟨ret_two HF.out.1 HF.out.2, hbel2.trans (hb3'.mono hbel2.size)⟩
                · have HF := Lib.hid (p_range HS.out HA.out (fun c => hl c.2))
                  refine wp_region_below (by kernel_rfl) (by kernel_rfl) ?_
                  repeat (go_big_quiet_step ((go_at_call 48; exact Sub.ofB _ (by simp) (number_any _ _ _ _ (by omega) (by omega) (by omega) (by omega) (by omega) (by omega)))))
                  refine wpQuiet_nil ?_
                  rintro w3 ⟨⟨_, hb3'⟩, rfl⟩
                  go_wp2
                  go_ret2
                  exact ⟨ret_two HF.out.1 HF.out.2, hbel2.trans (hb3'.mono hbel2.size)⟩
              · have HF := Lib.hid (p_range HS.out HA.out (fun c => by have := c.1; unfold pOk at this; rw [decide_eq_false hm] at this; simp at this))
                have d1 : decide (23 < pr s 11) = false := decide_eq_false (by omega)
                have d2 : decide (59 < pr s 14) = true := decide_eq_true (by omega)
                refine wp_region_below (by kernel_rfl) (by kernel_rfl) ?_
                repeat (go_big_quiet_step ((go_at_call 47; exact Sub.ofB _ (by simp) (exists_any _ _ _ _))))
                refine wpQuiet_nil ?_
                rintro w2 ⟨⟨_, hb2'⟩, rfl⟩
                go_wp2
                go_ret2
                exact ⟨ret_two HF.out.1 HF.out.2, hbel1.trans (hb2'.mono hbel1.size)⟩
            · have HF := Lib.hid (p_range HS.out HA.out (fun c => by have := c.1; unfold pOk at this; rw [decide_eq_false hh] at this; simp at this))
              have d1 : decide (23 < pr s 11) = true := decide_eq_true (by omega)
              refine wp_region_below (by kernel_rfl) (by kernel_rfl) ?_
              repeat (go_big_quiet_step ((go_at_call 47; exact Sub.ofB _ (by simp) (exists_any _ _ _ _))))
              refine wpQuiet_nil ?_
              rintro w2 ⟨⟨_, hb2'⟩, rfl⟩
              go_wp2
              go_ret2
              exact ⟨ret_two HF.out.1 HF.out.2, hbel1.trans (hb2'.mono hbel1.size)⟩
          · have hx' : exB (100 * pr s 0 + pr s 2) (pr s 5) (pr s 8) = false := by simpa using hx
            have HX := Lib.hid (show exB (pY s) (pr s 5) (pr s 8) = false from hx')
            have HF := Lib.hid (p_range HS.out HA.out (fun c => by have := c.1; unfold pOk at this; rw [HX.out] at this; simp at this))
            clear hx
            refine wp_region_below (by kernel_rfl) (by kernel_rfl) ?_
            repeat (go_big_quiet_step ((go_at_call 47; exact Sub.ofB _ (by simp) (exists_any _ _ _ _))))
            refine wpQuiet_nil ?_
            rintro w2 ⟨⟨_, hb2'⟩, rfl⟩
            go_wp2
            go_ret2
            exact ⟨ret_two HF.out.1 HF.out.2, hbel1.trans (hb2'.mono hbel1.size)⟩
        · have hbase : wo.heap.size + 1 ≤ wr.heap.size := by have := hb2.size; simpa using this
          obtain ⟨i0, hi0, hz0, hz1, hz2⟩ := info_parts info3
          rcases (show k = 0 ∨ k = 1 ∨ k = 2 ∨ k = 3 ∨ k = 4 ∨ k = 5 by omega) with rfl | rfl | rfl | rfl | rfl | rfl
          · have hc : wr.cell? ⟨wo.heap.size, 0, none⟩ = some (.int .i64 0) := by rw [hb2.cell (by simp)]; simp
            have HNE := Lib.hid (own_ne hown (show wo.heap.size < wo.heap.size + 1 by omega))
            have hi : (0 : Nat) < s.size := by omega
            have hi1 : (1 : Nat) < s.size := by omega
            have hj : (0 : Int) < (s.size : Int) := by omega
            have hj1 : (1 : Int) < (s.size : Int) := by omega
            have l0 := dig_at HA.out (show 0 < 16 by omega) rfl
            have l1 := dig_at HA.out (show 1 < 16 by omega) rfl
            rw [bt_eq s 0 (by omega)] at l0
            rw [bt_eq s 1 (by omega)] at l1
            have a3 : IntKind.i64.wrap 1 = 1 := IntWalk.i64_in _ (by omega)
            have HW := Lib.hid ((wex (x := (s[0].toNat : Int)) (y := (s[1].toNat : Int)) (by omega) (by omega) (by omega) (by omega)).trans (show _ = pr s 0 by unfold pr; rw [bt_eq s 0 (by omega), bt_eq s (0 + 1) (by omega)]))
            go_wp2
            go_region_held3 (fun w' => w'.cell? ⟨wo.heap.size, 0, none⟩ = some (.int .i64 0))
              (first | go_keep | (rw [hgrow.cell_far _ (by simp; omega) HNE.out]; assumption))
              ((refine step_append_lies _ (by rfl) _ _ _ (by rfl) (wo.heap.size + 1) 3 i0 _ 1 8 Tryd.underlying64 hi0 hz0 hz1 hz2 rfl (by omega) _ 0 (prV s 0) (by rfl) ((hown.alloc _).drew) ⟨wr.heap.size, 0, none⟩ 1 1 [.int .i64 (wx (s[0].toNat : Int) (s[1].toNat : Int))] (by rfl) (by rfl) (World.news_of_block (cs := #[.int .i64 (wx (s[0].toNat : Int) (s[1].toNat : Int))]) (t := 3) (fr := (0, 0)) (heap_alloc_new wr _)) (by simp [Value.oneCell']) (by omega) (by decide) (by omega) (by simp; omega) (wr.heap.size + 1) (by simp) ?_; intro gg cap w1 hown1 hgrow hat hlt))
            all_goals
              have hb3 := (((hb2.alloc hbase _).drew).grown hgrow (by simp; omega) (own_ge hown))
              rw [HW.out] at hown1
              have HO1 := Lib.hid hown1
              clear hown1 hgrow hat hlt
              go_wp2
              go_roundw
              case rel => first | exact ⟨1, by omega, rfl, HO1.out, hb3⟩ | ((repeat apply Exists.intro); exact ⟨⟨1, by omega, rfl, HO1.out, hb3⟩, rfl⟩)
              case measure => simp [intOf]
          · have hc : wr.cell? ⟨wo.heap.size, 1, none⟩ = some (.int .i64 2) := by rw [hb2.cell (by simp)]; simp
            have HNE := Lib.hid (own_ne hown (show wo.heap.size < wo.heap.size + 1 by omega))
            have hi : (2 : Nat) < s.size := by omega
            have hi1 : (3 : Nat) < s.size := by omega
            have hj : (2 : Int) < (s.size : Int) := by omega
            have hj1 : (3 : Int) < (s.size : Int) := by omega
            have l0 := dig_at HA.out (show 2 < 16 by omega) rfl
            have l1 := dig_at HA.out (show 3 < 16 by omega) rfl
            rw [bt_eq s 2 (by omega)] at l0
            rw [bt_eq s 3 (by omega)] at l1
            have a3 : IntKind.i64.wrap 3 = 3 := IntWalk.i64_in _ (by omega)
            have HW := Lib.hid ((wex (x := (s[2].toNat : Int)) (y := (s[3].toNat : Int)) (by omega) (by omega) (by omega) (by omega)).trans (show _ = pr s 2 by unfold pr; rw [bt_eq s 2 (by omega), bt_eq s (2 + 1) (by omega)]))
            go_wp2
            go_region_held3 (fun w' => w'.cell? ⟨wo.heap.size, 1, none⟩ = some (.int .i64 2))
              (first | go_keep | (rw [hgrow.cell_far _ (by simp; omega) HNE.out]; assumption))
              ((refine step_append_lies _ (by rfl) _ _ _ (by rfl) (wo.heap.size + 1) 3 i0 _ 1 8 Tryd.underlying64 hi0 hz0 hz1 hz2 rfl (by omega) _ 1 (prV s 1) (by rfl) ((hown.alloc _).drew) ⟨wr.heap.size, 0, none⟩ 1 1 [.int .i64 (wx (s[2].toNat : Int) (s[3].toNat : Int))] (by rfl) (by rfl) (World.news_of_block (cs := #[.int .i64 (wx (s[2].toNat : Int) (s[3].toNat : Int))]) (t := 3) (fr := (0, 0)) (heap_alloc_new wr _)) (by simp [Value.oneCell']) (by omega) (by decide) (by omega) (by simp; omega) (wr.heap.size + 1) (by simp) ?_; intro gg cap w1 hown1 hgrow hat hlt))
            all_goals
              have hb3 := (((hb2.alloc hbase _).drew).grown hgrow (by simp; omega) (own_ge hown))
              rw [HW.out] at hown1
              have HO1 := Lib.hid hown1
              clear hown1 hgrow hat hlt
              go_wp2
              go_roundw
              case rel => first | exact ⟨2, by omega, rfl, HO1.out, hb3⟩ | ((repeat apply Exists.intro); exact ⟨⟨2, by omega, rfl, HO1.out, hb3⟩, rfl⟩)
              case measure => simp [intOf]
          · have hc : wr.cell? ⟨wo.heap.size, 2, none⟩ = some (.int .i64 5) := by rw [hb2.cell (by simp)]; simp
            have HNE := Lib.hid (own_ne hown (show wo.heap.size < wo.heap.size + 1 by omega))
            have hi : (5 : Nat) < s.size := by omega
            have hi1 : (6 : Nat) < s.size := by omega
            have hj : (5 : Int) < (s.size : Int) := by omega
            have hj1 : (6 : Int) < (s.size : Int) := by omega
            have l0 := dig_at HA.out (show 5 < 16 by omega) rfl
            have l1 := dig_at HA.out (show 6 < 16 by omega) rfl
            rw [bt_eq s 5 (by omega)] at l0
            rw [bt_eq s 6 (by omega)] at l1
            have a3 : IntKind.i64.wrap 6 = 6 := IntWalk.i64_in _ (by omega)
            have HW := Lib.hid ((wex (x := (s[5].toNat : Int)) (y := (s[6].toNat : Int)) (by omega) (by omega) (by omega) (by omega)).trans (show _ = pr s 5 by unfold pr; rw [bt_eq s 5 (by omega), bt_eq s (5 + 1) (by omega)]))
            go_wp2
            go_region_held3 (fun w' => w'.cell? ⟨wo.heap.size, 2, none⟩ = some (.int .i64 5))
              (first | go_keep | (rw [hgrow.cell_far _ (by simp; omega) HNE.out]; assumption))
              ((refine step_append_lies _ (by rfl) _ _ _ (by rfl) (wo.heap.size + 1) 3 i0 _ 1 8 Tryd.underlying64 hi0 hz0 hz1 hz2 rfl (by omega) _ 2 (prV s 2) (by rfl) ((hown.alloc _).drew) ⟨wr.heap.size, 0, none⟩ 1 1 [.int .i64 (wx (s[5].toNat : Int) (s[6].toNat : Int))] (by rfl) (by rfl) (World.news_of_block (cs := #[.int .i64 (wx (s[5].toNat : Int) (s[6].toNat : Int))]) (t := 3) (fr := (0, 0)) (heap_alloc_new wr _)) (by simp [Value.oneCell']) (by omega) (by decide) (by omega) (by simp; omega) (wr.heap.size + 1) (by simp) ?_; intro gg cap w1 hown1 hgrow hat hlt))
            all_goals
              have hb3 := (((hb2.alloc hbase _).drew).grown hgrow (by simp; omega) (own_ge hown))
              rw [HW.out] at hown1
              have HO1 := Lib.hid hown1
              clear hown1 hgrow hat hlt
              go_wp2
              go_roundw
              case rel => first | exact ⟨3, by omega, rfl, HO1.out, hb3⟩ | ((repeat apply Exists.intro); exact ⟨⟨3, by omega, rfl, HO1.out, hb3⟩, rfl⟩)
              case measure => simp [intOf]
          · have hc : wr.cell? ⟨wo.heap.size, 3, none⟩ = some (.int .i64 8) := by rw [hb2.cell (by simp)]; simp
            have HNE := Lib.hid (own_ne hown (show wo.heap.size < wo.heap.size + 1 by omega))
            have hi : (8 : Nat) < s.size := by omega
            have hi1 : (9 : Nat) < s.size := by omega
            have hj : (8 : Int) < (s.size : Int) := by omega
            have hj1 : (9 : Int) < (s.size : Int) := by omega
            have l0 := dig_at HA.out (show 8 < 16 by omega) rfl
            have l1 := dig_at HA.out (show 9 < 16 by omega) rfl
            rw [bt_eq s 8 (by omega)] at l0
            rw [bt_eq s 9 (by omega)] at l1
            have a3 : IntKind.i64.wrap 9 = 9 := IntWalk.i64_in _ (by omega)
            have HW := Lib.hid ((wex (x := (s[8].toNat : Int)) (y := (s[9].toNat : Int)) (by omega) (by omega) (by omega) (by omega)).trans (show _ = pr s 8 by unfold pr; rw [bt_eq s 8 (by omega), bt_eq s (8 + 1) (by omega)]))
            go_wp2
            go_region_held3 (fun w' => w'.cell? ⟨wo.heap.size, 3, none⟩ = some (.int .i64 8))
              (first | go_keep | (rw [hgrow.cell_far _ (by simp; omega) HNE.out]; assumption))
              ((refine step_append_lies _ (by rfl) _ _ _ (by rfl) (wo.heap.size + 1) 3 i0 _ 1 8 Tryd.underlying64 hi0 hz0 hz1 hz2 rfl (by omega) _ 3 (prV s 3) (by rfl) ((hown.alloc _).drew) ⟨wr.heap.size, 0, none⟩ 1 1 [.int .i64 (wx (s[8].toNat : Int) (s[9].toNat : Int))] (by rfl) (by rfl) (World.news_of_block (cs := #[.int .i64 (wx (s[8].toNat : Int) (s[9].toNat : Int))]) (t := 3) (fr := (0, 0)) (heap_alloc_new wr _)) (by simp [Value.oneCell']) (by omega) (by decide) (by omega) (by simp; omega) (wr.heap.size + 1) (by simp) ?_; intro gg cap w1 hown1 hgrow hat hlt))
            all_goals
              have hb3 := (((hb2.alloc hbase _).drew).grown hgrow (by simp; omega) (own_ge hown))
              rw [HW.out] at hown1
              have HO1 := Lib.hid hown1
              clear hown1 hgrow hat hlt
              go_wp2
              go_roundw
              case rel => first | exact ⟨4, by omega, rfl, HO1.out, hb3⟩ | ((repeat apply Exists.intro); exact ⟨⟨4, by omega, rfl, HO1.out, hb3⟩, rfl⟩)
              case measure => simp [intOf]
          · have hc : wr.cell? ⟨wo.heap.size, 4, none⟩ = some (.int .i64 11) := by rw [hb2.cell (by simp)]; simp
            have HNE := Lib.hid (own_ne hown (show wo.heap.size < wo.heap.size + 1 by omega))
            have hi : (11 : Nat) < s.size := by omega
            have hi1 : (12 : Nat) < s.size := by omega
            have hj : (11 : Int) < (s.size : Int) := by omega
            have hj1 : (12 : Int) < (s.size : Int) := by omega
            have l0 := dig_at HA.out (show 11 < 16 by omega) rfl
            have l1 := dig_at HA.out (show 12 < 16 by omega) rfl
            rw [bt_eq s 11 (by omega)] at l0
            rw [bt_eq s 12 (by omega)] at l1
            have a3 : IntKind.i64.wrap 12 = 12 := IntWalk.i64_in _ (by omega)
            have HW := Lib.hid ((wex (x := (s[11].toNat : Int)) (y := (s[12].toNat : Int)) (by omega) (by omega) (by omega) (by omega)).trans (show _ = pr s 11 by unfold pr; rw [bt_eq s 11 (by omega), bt_eq s (11 + 1) (by omega)]))
            go_wp2
            go_region_held3 (fun w' => w'.cell? ⟨wo.heap.size, 4, none⟩ = some (.int .i64 11))
              (first | go_keep | (rw [hgrow.cell_far _ (by simp; omega) HNE.out]; assumption))
              ((refine step_append_lies _ (by rfl) _ _ _ (by rfl) (wo.heap.size + 1) 3 i0 _ 1 8 Tryd.underlying64 hi0 hz0 hz1 hz2 rfl (by omega) _ 4 (prV s 4) (by rfl) ((hown.alloc _).drew) ⟨wr.heap.size, 0, none⟩ 1 1 [.int .i64 (wx (s[11].toNat : Int) (s[12].toNat : Int))] (by rfl) (by rfl) (World.news_of_block (cs := #[.int .i64 (wx (s[11].toNat : Int) (s[12].toNat : Int))]) (t := 3) (fr := (0, 0)) (heap_alloc_new wr _)) (by simp [Value.oneCell']) (by omega) (by decide) (by omega) (by simp; omega) (wr.heap.size + 1) (by simp) ?_; intro gg cap w1 hown1 hgrow hat hlt))
            all_goals
              have hb3 := (((hb2.alloc hbase _).drew).grown hgrow (by simp; omega) (own_ge hown))
              rw [HW.out] at hown1
              have HO1 := Lib.hid hown1
              clear hown1 hgrow hat hlt
              go_wp2
              go_roundw
              case rel => first | exact ⟨5, by omega, rfl, HO1.out, hb3⟩ | ((repeat apply Exists.intro); exact ⟨⟨5, by omega, rfl, HO1.out, hb3⟩, rfl⟩)
              case measure => simp [intOf]
          · have hc : wr.cell? ⟨wo.heap.size, 5, none⟩ = some (.int .i64 14) := by rw [hb2.cell (by simp)]; simp
            have HNE := Lib.hid (own_ne hown (show wo.heap.size < wo.heap.size + 1 by omega))
            have hi : (14 : Nat) < s.size := by omega
            have hi1 : (15 : Nat) < s.size := by omega
            have hj : (14 : Int) < (s.size : Int) := by omega
            have hj1 : (15 : Int) < (s.size : Int) := by omega
            have l0 := dig_at HA.out (show 14 < 16 by omega) rfl
            have l1 := dig_at HA.out (show 15 < 16 by omega) rfl
            rw [bt_eq s 14 (by omega)] at l0
            rw [bt_eq s 15 (by omega)] at l1
            have a3 : IntKind.i64.wrap 15 = 15 := IntWalk.i64_in _ (by omega)
            have HW := Lib.hid ((wex (x := (s[14].toNat : Int)) (y := (s[15].toNat : Int)) (by omega) (by omega) (by omega) (by omega)).trans (show _ = pr s 14 by unfold pr; rw [bt_eq s 14 (by omega), bt_eq s (14 + 1) (by omega)]))
            go_wp2
            go_region_held3 (fun w' => w'.cell? ⟨wo.heap.size, 5, none⟩ = some (.int .i64 14))
              (first | go_keep | (rw [hgrow.cell_far _ (by simp; omega) HNE.out]; assumption))
              ((refine step_append_lies _ (by rfl) _ _ _ (by rfl) (wo.heap.size + 1) 3 i0 _ 1 8 Tryd.underlying64 hi0 hz0 hz1 hz2 rfl (by omega) _ 5 (prV s 5) (by rfl) ((hown.alloc _).drew) ⟨wr.heap.size, 0, none⟩ 1 1 [.int .i64 (wx (s[14].toNat : Int) (s[15].toNat : Int))] (by rfl) (by rfl) (World.news_of_block (cs := #[.int .i64 (wx (s[14].toNat : Int) (s[15].toNat : Int))]) (t := 3) (fr := (0, 0)) (heap_alloc_new wr _)) (by simp [Value.oneCell']) (by omega) (by decide) (by omega) (by simp; omega) (wr.heap.size + 1) (by simp) ?_; intro gg cap w1 hown1 hgrow hat hlt))
            all_goals
              have hb3 := (((hb2.alloc hbase _).drew).grown hgrow (by simp; omega) (own_ge hown))
              rw [HW.out] at hown1
              have HO1 := Lib.hid hown1
              clear hown1 hgrow hat hlt
              go_wp2
              go_roundw
              case rel => first | exact ⟨6, by omega, rfl, HO1.out, hb3⟩ | ((repeat apply Exists.intro); exact ⟨⟨6, by omega, rfl, HO1.out, hb3⟩, rfl⟩)
              case measure => simp [intOf]
    · rcases (show k = 0 ∨ k = 1 ∨ k = 2 ∨ k = 3 ∨ k = 4 ∨ k = 5 ∨ k = 6 ∨ k = 7 ∨ k = 8 ∨ k = 9 ∨ k = 10 ∨ k = 11 ∨ k = 12 ∨ k = 13 ∨ k = 14 ∨ k = 15 by omega) with rfl | rfl | rfl | rfl | rfl | rfl | rfl | rfl | rfl | rfl | rfl | rfl | rfl | rfl | rfl | rfl
      · have hf : ∀ h, (ByteArray.mk #[100, 100, 100, 100, 45, 100, 100, 45, 100, 100, 32, 100, 100, 58, 100, 100])[0]'h = 100 := fun _ => rfl
        have hi : (0 : Int) < (s.size : Int) := by omega
        have hiN : 0 < s.size := by omega
        by_cases c1 : (s[0].toNat : Int) < 48
        · have HV := Lib.hid (p_bad (s := s) (k := 0) (by omega) (by rw [okAt_dig rfl (by omega)]; exact decide_eq_false (by omega)))
          go_wp2
          refine wp_region_below (by kernel_rfl) (by kernel_rfl) ?_
          repeat (go_big_quiet_step (fail))
          refine wpQuiet_nil ?_
          rintro w1 ⟨⟨_, hb1⟩, rfl⟩
          go_wp2
          go_ret2
          exact ⟨ret_two HV.out.1 HV.out.2, hb.trans (hb1.mono hb.size)⟩
        · have d1 : decide ((s[0].toNat : Int) < 48) = false := decide_eq_false c1
          by_cases c2 : (57 : Int) < (s[0].toNat : Int)
          · have d2 : decide ((57 : Int) < (s[0].toNat : Int)) = true := decide_eq_true c2
            have HV := Lib.hid (p_bad (s := s) (k := 0) (by omega) (by rw [okAt_dig rfl (by omega)]; exact decide_eq_false (by omega)))
            go_wp2
            refine wp_region_below (by kernel_rfl) (by kernel_rfl) ?_
            repeat (go_big_quiet_step (fail))
            refine wpQuiet_nil ?_
            rintro w1 ⟨⟨_, hb1⟩, rfl⟩
            go_wp2
            go_ret2
            exact ⟨ret_two HV.out.1 HV.out.2, hb.trans (hb1.mono hb.size)⟩
          · have d2 : decide ((57 : Int) < (s[0].toNat : Int)) = false := decide_eq_false c2
            have HV := Lib.hid (show okAt s 0 = true by rw [okAt_dig rfl (by omega)]; exact decide_eq_true (by omega))
            go_wp2
            refine wp_region_below (by kernel_rfl) (by kernel_rfl) ?_
            repeat (go_big_quiet_step (fail))
            refine wpQuiet_nil ?_
            rintro w1 ⟨⟨_, hb1⟩, rfl⟩
            go_wp2
            refine ⟨⟨1, by omega, rfl, okAt_step HO.out HV.out, hb.trans (hb1.mono hb.size)⟩, by simp [intOf]⟩
      · have hf : ∀ h, (ByteArray.mk #[100, 100, 100, 100, 45, 100, 100, 45, 100, 100, 32, 100, 100, 58, 100, 100])[1]'h = 100 := fun _ => rfl
        have hi : (1 : Int) < (s.size : Int) := by omega
        have hiN : 1 < s.size := by omega
        by_cases c1 : (s[1].toNat : Int) < 48
        · have HV := Lib.hid (p_bad (s := s) (k := 1) (by omega) (by rw [okAt_dig rfl (by omega)]; exact decide_eq_false (by omega)))
          go_wp2
          refine wp_region_below (by kernel_rfl) (by kernel_rfl) ?_
          repeat (go_big_quiet_step (fail))
          refine wpQuiet_nil ?_
          rintro w1 ⟨⟨_, hb1⟩, rfl⟩
          go_wp2
          go_ret2
          exact ⟨ret_two HV.out.1 HV.out.2, hb.trans (hb1.mono hb.size)⟩
        · have d1 : decide ((s[1].toNat : Int) < 48) = false := decide_eq_false c1
          by_cases c2 : (57 : Int) < (s[1].toNat : Int)
          · have d2 : decide ((57 : Int) < (s[1].toNat : Int)) = true := decide_eq_true c2
            have HV := Lib.hid (p_bad (s := s) (k := 1) (by omega) (by rw [okAt_dig rfl (by omega)]; exact decide_eq_false (by omega)))
            go_wp2
            refine wp_region_below (by kernel_rfl) (by kernel_rfl) ?_
            repeat (go_big_quiet_step (fail))
            refine wpQuiet_nil ?_
            rintro w1 ⟨⟨_, hb1⟩, rfl⟩
            go_wp2
            go_ret2
            exact ⟨ret_two HV.out.1 HV.out.2, hb.trans (hb1.mono hb.size)⟩
          · have d2 : decide ((57 : Int) < (s[1].toNat : Int)) = false := decide_eq_false c2
            have HV := Lib.hid (show okAt s 1 = true by rw [okAt_dig rfl (by omega)]; exact decide_eq_true (by omega))
            go_wp2
            refine wp_region_below (by kernel_rfl) (by kernel_rfl) ?_
            repeat (go_big_quiet_step (fail))
            refine wpQuiet_nil ?_
            rintro w1 ⟨⟨_, hb1⟩, rfl⟩
            go_wp2
            refine ⟨⟨2, by omega, rfl, okAt_step HO.out HV.out, hb.trans (hb1.mono hb.size)⟩, by simp [intOf]⟩
      · have hf : ∀ h, (ByteArray.mk #[100, 100, 100, 100, 45, 100, 100, 45, 100, 100, 32, 100, 100, 58, 100, 100])[2]'h = 100 := fun _ => rfl
        have hi : (2 : Int) < (s.size : Int) := by omega
        have hiN : 2 < s.size := by omega
        by_cases c1 : (s[2].toNat : Int) < 48
        · have HV := Lib.hid (p_bad (s := s) (k := 2) (by omega) (by rw [okAt_dig rfl (by omega)]; exact decide_eq_false (by omega)))
          go_wp2
          refine wp_region_below (by kernel_rfl) (by kernel_rfl) ?_
          repeat (go_big_quiet_step (fail))
          refine wpQuiet_nil ?_
          rintro w1 ⟨⟨_, hb1⟩, rfl⟩
          go_wp2
          go_ret2
          exact ⟨ret_two HV.out.1 HV.out.2, hb.trans (hb1.mono hb.size)⟩
        · have d1 : decide ((s[2].toNat : Int) < 48) = false := decide_eq_false c1
          by_cases c2 : (57 : Int) < (s[2].toNat : Int)
          · have d2 : decide ((57 : Int) < (s[2].toNat : Int)) = true := decide_eq_true c2
            have HV := Lib.hid (p_bad (s := s) (k := 2) (by omega) (by rw [okAt_dig rfl (by omega)]; exact decide_eq_false (by omega)))
            go_wp2
            refine wp_region_below (by kernel_rfl) (by kernel_rfl) ?_
            repeat (go_big_quiet_step (fail))
            refine wpQuiet_nil ?_
            rintro w1 ⟨⟨_, hb1⟩, rfl⟩
            go_wp2
            go_ret2
            exact ⟨ret_two HV.out.1 HV.out.2, hb.trans (hb1.mono hb.size)⟩
          · have d2 : decide ((57 : Int) < (s[2].toNat : Int)) = false := decide_eq_false c2
            have HV := Lib.hid (show okAt s 2 = true by rw [okAt_dig rfl (by omega)]; exact decide_eq_true (by omega))
            go_wp2
            refine wp_region_below (by kernel_rfl) (by kernel_rfl) ?_
            repeat (go_big_quiet_step (fail))
            refine wpQuiet_nil ?_
            rintro w1 ⟨⟨_, hb1⟩, rfl⟩
            go_wp2
            refine ⟨⟨3, by omega, rfl, okAt_step HO.out HV.out, hb.trans (hb1.mono hb.size)⟩, by simp [intOf]⟩
      · have hf : ∀ h, (ByteArray.mk #[100, 100, 100, 100, 45, 100, 100, 45, 100, 100, 32, 100, 100, 58, 100, 100])[3]'h = 100 := fun _ => rfl
        have hi : (3 : Int) < (s.size : Int) := by omega
        have hiN : 3 < s.size := by omega
        by_cases c1 : (s[3].toNat : Int) < 48
        · have HV := Lib.hid (p_bad (s := s) (k := 3) (by omega) (by rw [okAt_dig rfl (by omega)]; exact decide_eq_false (by omega)))
          go_wp2
          refine wp_region_below (by kernel_rfl) (by kernel_rfl) ?_
          repeat (go_big_quiet_step (fail))
          refine wpQuiet_nil ?_
          rintro w1 ⟨⟨_, hb1⟩, rfl⟩
          go_wp2
          go_ret2
          exact ⟨ret_two HV.out.1 HV.out.2, hb.trans (hb1.mono hb.size)⟩
        · have d1 : decide ((s[3].toNat : Int) < 48) = false := decide_eq_false c1
          by_cases c2 : (57 : Int) < (s[3].toNat : Int)
          · have d2 : decide ((57 : Int) < (s[3].toNat : Int)) = true := decide_eq_true c2
            have HV := Lib.hid (p_bad (s := s) (k := 3) (by omega) (by rw [okAt_dig rfl (by omega)]; exact decide_eq_false (by omega)))
            go_wp2
            refine wp_region_below (by kernel_rfl) (by kernel_rfl) ?_
            repeat (go_big_quiet_step (fail))
            refine wpQuiet_nil ?_
            rintro w1 ⟨⟨_, hb1⟩, rfl⟩
            go_wp2
            go_ret2
            exact ⟨ret_two HV.out.1 HV.out.2, hb.trans (hb1.mono hb.size)⟩
          · have d2 : decide ((57 : Int) < (s[3].toNat : Int)) = false := decide_eq_false c2
            have HV := Lib.hid (show okAt s 3 = true by rw [okAt_dig rfl (by omega)]; exact decide_eq_true (by omega))
            go_wp2
            refine wp_region_below (by kernel_rfl) (by kernel_rfl) ?_
            repeat (go_big_quiet_step (fail))
            refine wpQuiet_nil ?_
            rintro w1 ⟨⟨_, hb1⟩, rfl⟩
            go_wp2
            refine ⟨⟨4, by omega, rfl, okAt_step HO.out HV.out, hb.trans (hb1.mono hb.size)⟩, by simp [intOf]⟩
      · have hf : ∀ h, (ByteArray.mk #[100, 100, 100, 100, 45, 100, 100, 45, 100, 100, 32, 100, 100, 58, 100, 100])[4]'h = 45 := fun _ => rfl
        have hi : (4 : Int) < (s.size : Int) := by omega
        have hiN : 4 < s.size := by omega
        by_cases hv : (s[4].toNat : Int) = 45
        · have hv1 : ((s[4].toNat : Int) != 45) = false := by rw [bne_eq_false_iff_eq]; exact hv
          have HV := Lib.hid (show okAt s 4 = true by rw [okAt_sep (c := 45) rfl (by omega) (by omega)]; exact decide_eq_true hv)
          clear hv
          go_wp2
          refine wp_region_below (by kernel_rfl) (by kernel_rfl) ?_
          repeat (go_big_quiet_step (fail))
          refine wpQuiet_nil ?_
          rintro w1 ⟨⟨_, hb1⟩, rfl⟩
          go_wp2
          refine ⟨⟨5, by omega, rfl, okAt_step HO.out HV.out, hb.trans (hb1.mono hb.size)⟩, by simp [intOf]⟩
        · have hv1 : ((s[4].toNat : Int) != 45) = true := by rw [bne_iff_ne]; exact hv
          have HV := Lib.hid (p_bad (s := s) (k := 4) (by omega) (by rw [okAt_sep (c := 45) rfl (by omega) (by omega)]; exact decide_eq_false hv))
          clear hv
          go_wp2
          refine wp_region_below (by kernel_rfl) (by kernel_rfl) ?_
          repeat (go_big_quiet_step (fail))
          refine wpQuiet_nil ?_
          rintro w1 ⟨⟨_, hb1⟩, rfl⟩
          go_wp2
          go_ret2
          exact ⟨ret_two HV.out.1 HV.out.2, hb.trans (hb1.mono hb.size)⟩
      · have hf : ∀ h, (ByteArray.mk #[100, 100, 100, 100, 45, 100, 100, 45, 100, 100, 32, 100, 100, 58, 100, 100])[5]'h = 100 := fun _ => rfl
        have hi : (5 : Int) < (s.size : Int) := by omega
        have hiN : 5 < s.size := by omega
        by_cases c1 : (s[5].toNat : Int) < 48
        · have HV := Lib.hid (p_bad (s := s) (k := 5) (by omega) (by rw [okAt_dig rfl (by omega)]; exact decide_eq_false (by omega)))
          go_wp2
          refine wp_region_below (by kernel_rfl) (by kernel_rfl) ?_
          repeat (go_big_quiet_step (fail))
          refine wpQuiet_nil ?_
          rintro w1 ⟨⟨_, hb1⟩, rfl⟩
          go_wp2
          go_ret2
          exact ⟨ret_two HV.out.1 HV.out.2, hb.trans (hb1.mono hb.size)⟩
        · have d1 : decide ((s[5].toNat : Int) < 48) = false := decide_eq_false c1
          by_cases c2 : (57 : Int) < (s[5].toNat : Int)
          · have d2 : decide ((57 : Int) < (s[5].toNat : Int)) = true := decide_eq_true c2
            have HV := Lib.hid (p_bad (s := s) (k := 5) (by omega) (by rw [okAt_dig rfl (by omega)]; exact decide_eq_false (by omega)))
            go_wp2
            refine wp_region_below (by kernel_rfl) (by kernel_rfl) ?_
            repeat (go_big_quiet_step (fail))
            refine wpQuiet_nil ?_
            rintro w1 ⟨⟨_, hb1⟩, rfl⟩
            go_wp2
            go_ret2
            exact ⟨ret_two HV.out.1 HV.out.2, hb.trans (hb1.mono hb.size)⟩
          · have d2 : decide ((57 : Int) < (s[5].toNat : Int)) = false := decide_eq_false c2
            have HV := Lib.hid (show okAt s 5 = true by rw [okAt_dig rfl (by omega)]; exact decide_eq_true (by omega))
            go_wp2
            refine wp_region_below (by kernel_rfl) (by kernel_rfl) ?_
            repeat (go_big_quiet_step (fail))
            refine wpQuiet_nil ?_
            rintro w1 ⟨⟨_, hb1⟩, rfl⟩
            go_wp2
            refine ⟨⟨6, by omega, rfl, okAt_step HO.out HV.out, hb.trans (hb1.mono hb.size)⟩, by simp [intOf]⟩
      · have hf : ∀ h, (ByteArray.mk #[100, 100, 100, 100, 45, 100, 100, 45, 100, 100, 32, 100, 100, 58, 100, 100])[6]'h = 100 := fun _ => rfl
        have hi : (6 : Int) < (s.size : Int) := by omega
        have hiN : 6 < s.size := by omega
        by_cases c1 : (s[6].toNat : Int) < 48
        · have HV := Lib.hid (p_bad (s := s) (k := 6) (by omega) (by rw [okAt_dig rfl (by omega)]; exact decide_eq_false (by omega)))
          go_wp2
          refine wp_region_below (by kernel_rfl) (by kernel_rfl) ?_
          repeat (go_big_quiet_step (fail))
          refine wpQuiet_nil ?_
          rintro w1 ⟨⟨_, hb1⟩, rfl⟩
          go_wp2
          go_ret2
          exact ⟨ret_two HV.out.1 HV.out.2, hb.trans (hb1.mono hb.size)⟩
        · have d1 : decide ((s[6].toNat : Int) < 48) = false := decide_eq_false c1
          by_cases c2 : (57 : Int) < (s[6].toNat : Int)
          · have d2 : decide ((57 : Int) < (s[6].toNat : Int)) = true := decide_eq_true c2
            have HV := Lib.hid (p_bad (s := s) (k := 6) (by omega) (by rw [okAt_dig rfl (by omega)]; exact decide_eq_false (by omega)))
            go_wp2
            refine wp_region_below (by kernel_rfl) (by kernel_rfl) ?_
            repeat (go_big_quiet_step (fail))
            refine wpQuiet_nil ?_
            rintro w1 ⟨⟨_, hb1⟩, rfl⟩
            go_wp2
            go_ret2
            exact ⟨ret_two HV.out.1 HV.out.2, hb.trans (hb1.mono hb.size)⟩
          · have d2 : decide ((57 : Int) < (s[6].toNat : Int)) = false := decide_eq_false c2
            have HV := Lib.hid (show okAt s 6 = true by rw [okAt_dig rfl (by omega)]; exact decide_eq_true (by omega))
            go_wp2
            refine wp_region_below (by kernel_rfl) (by kernel_rfl) ?_
            repeat (go_big_quiet_step (fail))
            refine wpQuiet_nil ?_
            rintro w1 ⟨⟨_, hb1⟩, rfl⟩
            go_wp2
            refine ⟨⟨7, by omega, rfl, okAt_step HO.out HV.out, hb.trans (hb1.mono hb.size)⟩, by simp [intOf]⟩
      · have hf : ∀ h, (ByteArray.mk #[100, 100, 100, 100, 45, 100, 100, 45, 100, 100, 32, 100, 100, 58, 100, 100])[7]'h = 45 := fun _ => rfl
        have hi : (7 : Int) < (s.size : Int) := by omega
        have hiN : 7 < s.size := by omega
        by_cases hv : (s[7].toNat : Int) = 45
        · have hv1 : ((s[7].toNat : Int) != 45) = false := by rw [bne_eq_false_iff_eq]; exact hv
          have HV := Lib.hid (show okAt s 7 = true by rw [okAt_sep (c := 45) rfl (by omega) (by omega)]; exact decide_eq_true hv)
          clear hv
          go_wp2
          refine wp_region_below (by kernel_rfl) (by kernel_rfl) ?_
          repeat (go_big_quiet_step (fail))
          refine wpQuiet_nil ?_
          rintro w1 ⟨⟨_, hb1⟩, rfl⟩
          go_wp2
          refine ⟨⟨8, by omega, rfl, okAt_step HO.out HV.out, hb.trans (hb1.mono hb.size)⟩, by simp [intOf]⟩
        · have hv1 : ((s[7].toNat : Int) != 45) = true := by rw [bne_iff_ne]; exact hv
          have HV := Lib.hid (p_bad (s := s) (k := 7) (by omega) (by rw [okAt_sep (c := 45) rfl (by omega) (by omega)]; exact decide_eq_false hv))
          clear hv
          go_wp2
          refine wp_region_below (by kernel_rfl) (by kernel_rfl) ?_
          repeat (go_big_quiet_step (fail))
          refine wpQuiet_nil ?_
          rintro w1 ⟨⟨_, hb1⟩, rfl⟩
          go_wp2
          go_ret2
          exact ⟨ret_two HV.out.1 HV.out.2, hb.trans (hb1.mono hb.size)⟩
      · have hf : ∀ h, (ByteArray.mk #[100, 100, 100, 100, 45, 100, 100, 45, 100, 100, 32, 100, 100, 58, 100, 100])[8]'h = 100 := fun _ => rfl
        have hi : (8 : Int) < (s.size : Int) := by omega
        have hiN : 8 < s.size := by omega
        by_cases c1 : (s[8].toNat : Int) < 48
        · have HV := Lib.hid (p_bad (s := s) (k := 8) (by omega) (by rw [okAt_dig rfl (by omega)]; exact decide_eq_false (by omega)))
          go_wp2
          refine wp_region_below (by kernel_rfl) (by kernel_rfl) ?_
          repeat (go_big_quiet_step (fail))
          refine wpQuiet_nil ?_
          rintro w1 ⟨⟨_, hb1⟩, rfl⟩
          go_wp2
          go_ret2
          exact ⟨ret_two HV.out.1 HV.out.2, hb.trans (hb1.mono hb.size)⟩
        · have d1 : decide ((s[8].toNat : Int) < 48) = false := decide_eq_false c1
          by_cases c2 : (57 : Int) < (s[8].toNat : Int)
          · have d2 : decide ((57 : Int) < (s[8].toNat : Int)) = true := decide_eq_true c2
            have HV := Lib.hid (p_bad (s := s) (k := 8) (by omega) (by rw [okAt_dig rfl (by omega)]; exact decide_eq_false (by omega)))
            go_wp2
            refine wp_region_below (by kernel_rfl) (by kernel_rfl) ?_
            repeat (go_big_quiet_step (fail))
            refine wpQuiet_nil ?_
            rintro w1 ⟨⟨_, hb1⟩, rfl⟩
            go_wp2
            go_ret2
            exact ⟨ret_two HV.out.1 HV.out.2, hb.trans (hb1.mono hb.size)⟩
          · have d2 : decide ((57 : Int) < (s[8].toNat : Int)) = false := decide_eq_false c2
            have HV := Lib.hid (show okAt s 8 = true by rw [okAt_dig rfl (by omega)]; exact decide_eq_true (by omega))
            go_wp2
            refine wp_region_below (by kernel_rfl) (by kernel_rfl) ?_
            repeat (go_big_quiet_step (fail))
            refine wpQuiet_nil ?_
            rintro w1 ⟨⟨_, hb1⟩, rfl⟩
            go_wp2
            refine ⟨⟨9, by omega, rfl, okAt_step HO.out HV.out, hb.trans (hb1.mono hb.size)⟩, by simp [intOf]⟩
      · have hf : ∀ h, (ByteArray.mk #[100, 100, 100, 100, 45, 100, 100, 45, 100, 100, 32, 100, 100, 58, 100, 100])[9]'h = 100 := fun _ => rfl
        have hi : (9 : Int) < (s.size : Int) := by omega
        have hiN : 9 < s.size := by omega
        by_cases c1 : (s[9].toNat : Int) < 48
        · have HV := Lib.hid (p_bad (s := s) (k := 9) (by omega) (by rw [okAt_dig rfl (by omega)]; exact decide_eq_false (by omega)))
          go_wp2
          refine wp_region_below (by kernel_rfl) (by kernel_rfl) ?_
          repeat (go_big_quiet_step (fail))
          refine wpQuiet_nil ?_
          rintro w1 ⟨⟨_, hb1⟩, rfl⟩
          go_wp2
          go_ret2
          exact ⟨ret_two HV.out.1 HV.out.2, hb.trans (hb1.mono hb.size)⟩
        · have d1 : decide ((s[9].toNat : Int) < 48) = false := decide_eq_false c1
          by_cases c2 : (57 : Int) < (s[9].toNat : Int)
          · have d2 : decide ((57 : Int) < (s[9].toNat : Int)) = true := decide_eq_true c2
            have HV := Lib.hid (p_bad (s := s) (k := 9) (by omega) (by rw [okAt_dig rfl (by omega)]; exact decide_eq_false (by omega)))
            go_wp2
            refine wp_region_below (by kernel_rfl) (by kernel_rfl) ?_
            repeat (go_big_quiet_step (fail))
            refine wpQuiet_nil ?_
            rintro w1 ⟨⟨_, hb1⟩, rfl⟩
            go_wp2
            go_ret2
            exact ⟨ret_two HV.out.1 HV.out.2, hb.trans (hb1.mono hb.size)⟩
          · have d2 : decide ((57 : Int) < (s[9].toNat : Int)) = false := decide_eq_false c2
            have HV := Lib.hid (show okAt s 9 = true by rw [okAt_dig rfl (by omega)]; exact decide_eq_true (by omega))
            go_wp2
            refine wp_region_below (by kernel_rfl) (by kernel_rfl) ?_
            repeat (go_big_quiet_step (fail))
            refine wpQuiet_nil ?_
            rintro w1 ⟨⟨_, hb1⟩, rfl⟩
            go_wp2
            refine ⟨⟨10, by omega, rfl, okAt_step HO.out HV.out, hb.trans (hb1.mono hb.size)⟩, by simp [intOf]⟩
      · have hf : ∀ h, (ByteArray.mk #[100, 100, 100, 100, 45, 100, 100, 45, 100, 100, 32, 100, 100, 58, 100, 100])[10]'h = 32 := fun _ => rfl
        have hi : (10 : Int) < (s.size : Int) := by omega
        have hiN : 10 < s.size := by omega
        by_cases hv : (s[10].toNat : Int) = 32
        · have hv1 : ((s[10].toNat : Int) != 32) = false := by rw [bne_eq_false_iff_eq]; exact hv
          have HV := Lib.hid (show okAt s 10 = true by rw [okAt_sep (c := 32) rfl (by omega) (by omega)]; exact decide_eq_true hv)
          clear hv
          go_wp2
          refine wp_region_below (by kernel_rfl) (by kernel_rfl) ?_
          repeat (go_big_quiet_step (fail))
          refine wpQuiet_nil ?_
          rintro w1 ⟨⟨_, hb1⟩, rfl⟩
          go_wp2
          refine ⟨⟨11, by omega, rfl, okAt_step HO.out HV.out, hb.trans (hb1.mono hb.size)⟩, by simp [intOf]⟩
        · have hv1 : ((s[10].toNat : Int) != 32) = true := by rw [bne_iff_ne]; exact hv
          have HV := Lib.hid (p_bad (s := s) (k := 10) (by omega) (by rw [okAt_sep (c := 32) rfl (by omega) (by omega)]; exact decide_eq_false hv))
          clear hv
          go_wp2
          refine wp_region_below (by kernel_rfl) (by kernel_rfl) ?_
          repeat (go_big_quiet_step (fail))
          refine wpQuiet_nil ?_
          rintro w1 ⟨⟨_, hb1⟩, rfl⟩
          go_wp2
          go_ret2
          exact ⟨ret_two HV.out.1 HV.out.2, hb.trans (hb1.mono hb.size)⟩
      · have hf : ∀ h, (ByteArray.mk #[100, 100, 100, 100, 45, 100, 100, 45, 100, 100, 32, 100, 100, 58, 100, 100])[11]'h = 100 := fun _ => rfl
        have hi : (11 : Int) < (s.size : Int) := by omega
        have hiN : 11 < s.size := by omega
        by_cases c1 : (s[11].toNat : Int) < 48
        · have HV := Lib.hid (p_bad (s := s) (k := 11) (by omega) (by rw [okAt_dig rfl (by omega)]; exact decide_eq_false (by omega)))
          go_wp2
          refine wp_region_below (by kernel_rfl) (by kernel_rfl) ?_
          repeat (go_big_quiet_step (fail))
          refine wpQuiet_nil ?_
          rintro w1 ⟨⟨_, hb1⟩, rfl⟩
          go_wp2
          go_ret2
          exact ⟨ret_two HV.out.1 HV.out.2, hb.trans (hb1.mono hb.size)⟩
        · have d1 : decide ((s[11].toNat : Int) < 48) = false := decide_eq_false c1
          by_cases c2 : (57 : Int) < (s[11].toNat : Int)
          · have d2 : decide ((57 : Int) < (s[11].toNat : Int)) = true := decide_eq_true c2
            have HV := Lib.hid (p_bad (s := s) (k := 11) (by omega) (by rw [okAt_dig rfl (by omega)]; exact decide_eq_false (by omega)))
            go_wp2
            refine wp_region_below (by kernel_rfl) (by kernel_rfl) ?_
            repeat (go_big_quiet_step (fail))
            refine wpQuiet_nil ?_
            rintro w1 ⟨⟨_, hb1⟩, rfl⟩
            go_wp2
            go_ret2
            exact ⟨ret_two HV.out.1 HV.out.2, hb.trans (hb1.mono hb.size)⟩
          · have d2 : decide ((57 : Int) < (s[11].toNat : Int)) = false := decide_eq_false c2
            have HV := Lib.hid (show okAt s 11 = true by rw [okAt_dig rfl (by omega)]; exact decide_eq_true (by omega))
            go_wp2
            refine wp_region_below (by kernel_rfl) (by kernel_rfl) ?_
            repeat (go_big_quiet_step (fail))
            refine wpQuiet_nil ?_
            rintro w1 ⟨⟨_, hb1⟩, rfl⟩
            go_wp2
            refine ⟨⟨12, by omega, rfl, okAt_step HO.out HV.out, hb.trans (hb1.mono hb.size)⟩, by simp [intOf]⟩
      · have hf : ∀ h, (ByteArray.mk #[100, 100, 100, 100, 45, 100, 100, 45, 100, 100, 32, 100, 100, 58, 100, 100])[12]'h = 100 := fun _ => rfl
        have hi : (12 : Int) < (s.size : Int) := by omega
        have hiN : 12 < s.size := by omega
        by_cases c1 : (s[12].toNat : Int) < 48
        · have HV := Lib.hid (p_bad (s := s) (k := 12) (by omega) (by rw [okAt_dig rfl (by omega)]; exact decide_eq_false (by omega)))
          go_wp2
          refine wp_region_below (by kernel_rfl) (by kernel_rfl) ?_
          repeat (go_big_quiet_step (fail))
          refine wpQuiet_nil ?_
          rintro w1 ⟨⟨_, hb1⟩, rfl⟩
          go_wp2
          go_ret2
          exact ⟨ret_two HV.out.1 HV.out.2, hb.trans (hb1.mono hb.size)⟩
        · have d1 : decide ((s[12].toNat : Int) < 48) = false := decide_eq_false c1
          by_cases c2 : (57 : Int) < (s[12].toNat : Int)
          · have d2 : decide ((57 : Int) < (s[12].toNat : Int)) = true := decide_eq_true c2
            have HV := Lib.hid (p_bad (s := s) (k := 12) (by omega) (by rw [okAt_dig rfl (by omega)]; exact decide_eq_false (by omega)))
            go_wp2
            refine wp_region_below (by kernel_rfl) (by kernel_rfl) ?_
            repeat (go_big_quiet_step (fail))
            refine wpQuiet_nil ?_
            rintro w1 ⟨⟨_, hb1⟩, rfl⟩
            go_wp2
            go_ret2
            exact ⟨ret_two HV.out.1 HV.out.2, hb.trans (hb1.mono hb.size)⟩
          · have d2 : decide ((57 : Int) < (s[12].toNat : Int)) = false := decide_eq_false c2
            have HV := Lib.hid (show okAt s 12 = true by rw [okAt_dig rfl (by omega)]; exact decide_eq_true (by omega))
            go_wp2
            refine wp_region_below (by kernel_rfl) (by kernel_rfl) ?_
            repeat (go_big_quiet_step (fail))
            refine wpQuiet_nil ?_
            rintro w1 ⟨⟨_, hb1⟩, rfl⟩
            go_wp2
            refine ⟨⟨13, by omega, rfl, okAt_step HO.out HV.out, hb.trans (hb1.mono hb.size)⟩, by simp [intOf]⟩
      · have hf : ∀ h, (ByteArray.mk #[100, 100, 100, 100, 45, 100, 100, 45, 100, 100, 32, 100, 100, 58, 100, 100])[13]'h = 58 := fun _ => rfl
        have hi : (13 : Int) < (s.size : Int) := by omega
        have hiN : 13 < s.size := by omega
        by_cases hv : (s[13].toNat : Int) = 58
        · have hv1 : ((s[13].toNat : Int) != 58) = false := by rw [bne_eq_false_iff_eq]; exact hv
          have HV := Lib.hid (show okAt s 13 = true by rw [okAt_sep (c := 58) rfl (by omega) (by omega)]; exact decide_eq_true hv)
          clear hv
          go_wp2
          refine wp_region_below (by kernel_rfl) (by kernel_rfl) ?_
          repeat (go_big_quiet_step (fail))
          refine wpQuiet_nil ?_
          rintro w1 ⟨⟨_, hb1⟩, rfl⟩
          go_wp2
          refine ⟨⟨14, by omega, rfl, okAt_step HO.out HV.out, hb.trans (hb1.mono hb.size)⟩, by simp [intOf]⟩
        · have hv1 : ((s[13].toNat : Int) != 58) = true := by rw [bne_iff_ne]; exact hv
          have HV := Lib.hid (p_bad (s := s) (k := 13) (by omega) (by rw [okAt_sep (c := 58) rfl (by omega) (by omega)]; exact decide_eq_false hv))
          clear hv
          go_wp2
          refine wp_region_below (by kernel_rfl) (by kernel_rfl) ?_
          repeat (go_big_quiet_step (fail))
          refine wpQuiet_nil ?_
          rintro w1 ⟨⟨_, hb1⟩, rfl⟩
          go_wp2
          go_ret2
          exact ⟨ret_two HV.out.1 HV.out.2, hb.trans (hb1.mono hb.size)⟩
      · have hf : ∀ h, (ByteArray.mk #[100, 100, 100, 100, 45, 100, 100, 45, 100, 100, 32, 100, 100, 58, 100, 100])[14]'h = 100 := fun _ => rfl
        have hi : (14 : Int) < (s.size : Int) := by omega
        have hiN : 14 < s.size := by omega
        by_cases c1 : (s[14].toNat : Int) < 48
        · have HV := Lib.hid (p_bad (s := s) (k := 14) (by omega) (by rw [okAt_dig rfl (by omega)]; exact decide_eq_false (by omega)))
          go_wp2
          refine wp_region_below (by kernel_rfl) (by kernel_rfl) ?_
          repeat (go_big_quiet_step (fail))
          refine wpQuiet_nil ?_
          rintro w1 ⟨⟨_, hb1⟩, rfl⟩
          go_wp2
          go_ret2
          exact ⟨ret_two HV.out.1 HV.out.2, hb.trans (hb1.mono hb.size)⟩
        · have d1 : decide ((s[14].toNat : Int) < 48) = false := decide_eq_false c1
          by_cases c2 : (57 : Int) < (s[14].toNat : Int)
          · have d2 : decide ((57 : Int) < (s[14].toNat : Int)) = true := decide_eq_true c2
            have HV := Lib.hid (p_bad (s := s) (k := 14) (by omega) (by rw [okAt_dig rfl (by omega)]; exact decide_eq_false (by omega)))
            go_wp2
            refine wp_region_below (by kernel_rfl) (by kernel_rfl) ?_
            repeat (go_big_quiet_step (fail))
            refine wpQuiet_nil ?_
            rintro w1 ⟨⟨_, hb1⟩, rfl⟩
            go_wp2
            go_ret2
            exact ⟨ret_two HV.out.1 HV.out.2, hb.trans (hb1.mono hb.size)⟩
          · have d2 : decide ((57 : Int) < (s[14].toNat : Int)) = false := decide_eq_false c2
            have HV := Lib.hid (show okAt s 14 = true by rw [okAt_dig rfl (by omega)]; exact decide_eq_true (by omega))
            go_wp2
            refine wp_region_below (by kernel_rfl) (by kernel_rfl) ?_
            repeat (go_big_quiet_step (fail))
            refine wpQuiet_nil ?_
            rintro w1 ⟨⟨_, hb1⟩, rfl⟩
            go_wp2
            refine ⟨⟨15, by omega, rfl, okAt_step HO.out HV.out, hb.trans (hb1.mono hb.size)⟩, by simp [intOf]⟩
      · have hf : ∀ h, (ByteArray.mk #[100, 100, 100, 100, 45, 100, 100, 45, 100, 100, 32, 100, 100, 58, 100, 100])[15]'h = 100 := fun _ => rfl
        have hi : (15 : Int) < (s.size : Int) := by omega
        have hiN : 15 < s.size := by omega
        by_cases c1 : (s[15].toNat : Int) < 48
        · have HV := Lib.hid (p_bad (s := s) (k := 15) (by omega) (by rw [okAt_dig rfl (by omega)]; exact decide_eq_false (by omega)))
          go_wp2
          refine wp_region_below (by kernel_rfl) (by kernel_rfl) ?_
          repeat (go_big_quiet_step (fail))
          refine wpQuiet_nil ?_
          rintro w1 ⟨⟨_, hb1⟩, rfl⟩
          go_wp2
          go_ret2
          exact ⟨ret_two HV.out.1 HV.out.2, hb.trans (hb1.mono hb.size)⟩
        · have d1 : decide ((s[15].toNat : Int) < 48) = false := decide_eq_false c1
          by_cases c2 : (57 : Int) < (s[15].toNat : Int)
          · have d2 : decide ((57 : Int) < (s[15].toNat : Int)) = true := decide_eq_true c2
            have HV := Lib.hid (p_bad (s := s) (k := 15) (by omega) (by rw [okAt_dig rfl (by omega)]; exact decide_eq_false (by omega)))
            go_wp2
            refine wp_region_below (by kernel_rfl) (by kernel_rfl) ?_
            repeat (go_big_quiet_step (fail))
            refine wpQuiet_nil ?_
            rintro w1 ⟨⟨_, hb1⟩, rfl⟩
            go_wp2
            go_ret2
            exact ⟨ret_two HV.out.1 HV.out.2, hb.trans (hb1.mono hb.size)⟩
          · have d2 : decide ((57 : Int) < (s[15].toNat : Int)) = false := decide_eq_false c2
            have HV := Lib.hid (show okAt s 15 = true by rw [okAt_dig rfl (by omega)]; exact decide_eq_true (by omega))
            go_wp2
            refine wp_region_below (by kernel_rfl) (by kernel_rfl) ?_
            repeat (go_big_quiet_step (fail))
            refine wpQuiet_nil ?_
            rintro w1 ⟨⟨_, hb1⟩, rfl⟩
            go_wp2
            refine ⟨⟨16, by omega, rfl, okAt_step HO.out HV.out, hb.trans (hb1.mono hb.size)⟩, by simp [intOf]⟩
end Go.Proofs.YtmncocmdobondaaDoor
