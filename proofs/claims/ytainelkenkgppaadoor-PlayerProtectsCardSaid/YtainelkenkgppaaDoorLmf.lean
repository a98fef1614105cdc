/- The limit of a kind that holds: the program's function. -/
import Derived.Test.YtainelkenkgppaaDoorLme
namespace Go.Proofs.YtainelkenkgppaaDoor
open Go.ChangeShapes Go.WideShapes Go.ChangeAt Go.RowKit Go.Lott
open Go.Lott.Lm
theorem stNew (w : World) : StW w.heap.size ⟨0, 0, 0, false⟩ ((((w.alloc (.cells #[.int .i64 0] 3)).alloc (.cells #[.int .i64 0] 3)).alloc (.cells #[.int .i64 0] 3)).alloc (.cells #[.bool false] 4)) where
  l := (((Cel.new _ _ _).alloc _).alloc _).alloc _
  p := by have := ((Cel.new (w.alloc (.cells #[.int .i64 0] 3)) #[.int .i64 0] 3).alloc (.cells #[.int .i64 0] 3)).alloc (.cells #[.bool false] 4); simpa using this
  f := by have := (Cel.new ((w.alloc (.cells #[.int .i64 0] 3)).alloc (.cells #[.int .i64 0] 3)) #[.int .i64 0] 3).alloc (.cells #[.bool false] 4); simpa using this
  w := by have := Cel.new (((w.alloc (.cells #[.int .i64 0] 3)).alloc (.cells #[.int .i64 0] 3)).alloc (.cells #[.int .i64 0] 3)) #[.bool false] 4; simpa using this
theorem belNew (w : World) : Below w.heap.size w ((((w.alloc (.cells #[.int .i64 0] 3)).alloc (.cells #[.int .i64 0] 3)).alloc (.cells #[.int .i64 0] 3)).alloc (.cells #[.bool false] 4)) :=
  ((((Below.refl _ _).alloc (Nat.le_refl _) _).alloc (by simp) _).alloc (by simp; omega) _).alloc (by simp; omega) _
set_option maxHeartbeats 4000000 in
set_option maxRecDepth 100000 in
theorem eff_any (a : Option Addr) (len cap : Nat) (z : Nat → Nat → Int) (k : Nat) (t : Int) (w : World) (hk : k < 3) (hlen : len < 1000000000) (hv : ∀ i, i < len → 0 ≤ z i 0 ∧ z i 0 ≤ 1073741824) (hr : IsRows 4 w a len z) :
    Calls Tryd.prog 38 #[.slice a len cap, .int .i64 k, .int .i64 t] w (RetB (.int .i64 (effE (row4 z len) k t)) w) := by
  have HR := Lib.hid hr
  have HV := Lib.hid hv
  have HNW := Lib.hid (stNew w)
  have HB := Lib.hid (belNew w)
  clear hr hv
  go_enter Tryd.func38, Tryd.ntmps38
  go_wp2
  go_loopw [18] (fun vi wr => ∃ (i : Nat) (s : St), Hid (foldE (row4 z i) k = s) ∧ vi = .int .i64 i ∧ i ≤ len ∧ StW w.heap.size s wr ∧ Below w.heap.size w wr) (fun vi _ => len - (intOf vi).toNat)
  case atStart => exact ⟨0, _, rfl, rfl, by omega, HNW.out, HB.out⟩
  case round =>
    obtain ⟨i, s, hf, rfl, hi, hS, hbel⟩ := hrel
    have HS := Lib.hid hS
    have hsz := hS.w.lt
    clear hS
    by_cases hlt : i < len
    · rcases HR.out with h0 | ⟨b, o, ha, hb, hm, hcell⟩
      · omega
      · subst ha
        have c0 : wr.cell? ⟨b, o + i * 4, none⟩ = some (.int .i64 (z i 0)) := (hbel.cell (p := ⟨b, _, none⟩) hb).trans (hcell i 0 hlt (by omega))
        have c1 : wr.cell? ⟨b, o + i * 4 + 1, none⟩ = some (.int .i64 (z i 1)) := (hbel.cell (p := ⟨b, _, none⟩) hb).trans (hcell i 1 hlt (by omega))
        have c2 : wr.cell? ⟨b, o + i * 4 + 2, none⟩ = some (.int .i64 (z i 2)) := (hbel.cell (p := ⟨b, _, none⟩) hb).trans (hcell i 2 hlt (by omega))
        have c3 : wr.cell? ⟨b, o + i * 4 + 3, none⟩ = some (.int .i64 (z i 3)) := (hbel.cell (p := ⟨b, _, none⟩) hb).trans (hcell i 3 hlt (by omega))
        clear hcell
        obtain ⟨v1, v2⟩ := HV.out i hlt
        obtain ⟨N, hN⟩ : ∃ N, kd (rw4 z i) k = N := ⟨_, rfl⟩
        have iK : ∀ W, (Instr.index 64 (.agg #[.int .i64 (z i 1), .int .i64 (z i 2), .int .i64 (z i 3)]) (.int .i64 k)).run Tryd.prog W = .ok (.int .i64 N) W := by
          intro W
          rw [← hN]
          rcases (show k = 0 ∨ k = 1 ∨ k = 2 by omega) with rfl | rfl | rfl <;> kernel_rfl
        have HN := Lib.hid hN
        clear hN
        obtain ⟨L, hL⟩ : ∃ L, lim1 s (z i 0) = L := ⟨_, rfl⟩
        have HL := Lib.hid hL
        clear hL
        by_cases n1 : N = L
        · have HST := Lib.hid (step_b HL.out n1)
          have b1 : (N != L) = false := by rw [bne_eq_false_iff_eq]; exact n1
          have n4 : ¬ N < L := by omega
          have b4 : decide (N < L) = false := decide_eq_false n4
          by_cases n2 : N = 0
          · have HST := Lib.hid (show stepE s (z i 0) 0 = ⟨0, s.pend, s.fr, false⟩ from step_b (by rw [HL.out]; omega) rfl)
            obtain rfl : L = 0 := by omega
            subst n2
            go_wp2_with (first | (go_at_call 65; refine (settle_any w.heap.size s (z i 0) _ (HS.out.alloc _)).mono ?_; rintro e w1 ⟨rfl, s1, hb1, ho1⟩; have C1 := Lib.hid (show Cel w1 wr.heap.size #[.int .i64 (z i 0), .int .i64 (z i 1), .int .i64 (z i 2), .int .i64 (z i 3)] 30 from (ho1 wr.heap.size (by omega)).trans (Cel.new _ _ _)); obtain ⟨x1, hx1⟩ : ∃ x1, StW w.heap.size ⟨lim1 s (z i 0), s.pend, s.fr, x1⟩ w1 := ⟨_, by rw [settle_eq] at s1; exact s1⟩; rw [HL.out] at hx1; have S1 := Lib.hid hx1; have HB1 := Lib.hid ((hbel.alloc hbel.size (.cells #[.int .i64 (z i 0), .int .i64 (z i 1), .int .i64 (z i 2), .int .i64 (z i 3)] 30)).trans hb1); have fw1 := hx1.w.free 0; have cw1 : w1.cell? ⟨w.heap.size + 1 + 1 + 1, 0, none⟩ = some (.bool x1) := hx1.w.cell 0; have hsz1 := hx1.w.lt; have C2 := Lib.hid (C1.out.other (a := ⟨w.heap.size + 1 + 1 + 1, 0, none⟩) (show wr.heap.size ≠ w.heap.size + 1 + 1 + 1 by omega) (.bool false)); have d1 : (w1.setCell ⟨w.heap.size + 1 + 1 + 1, 0, none⟩ (.bool false)).cell? ⟨wr.heap.size, 1, none⟩ = some (.int .i64 (z i 1)) := C2.out.cell 1; have d2 : (w1.setCell ⟨w.heap.size + 1 + 1 + 1, 0, none⟩ (.bool false)).cell? ⟨wr.heap.size, 2, none⟩ = some (.int .i64 (z i 2)) := C2.out.cell 2; have d3 : (w1.setCell ⟨w.heap.size + 1 + 1 + 1, 0, none⟩ (.bool false)).cell? ⟨wr.heap.size, 3, none⟩ = some (.int .i64 (z i 3)) := C2.out.cell 3; clear s1 hb1 ho1 hx1) | (go_at_call 30; refine (each_any _ _ _ _).mono ?_; rintro e w3 ⟨rfl, hb3⟩; have hx3 := (S1.out.stW false).below hb3 (by rw [World.size_setCell]; exact hsz1); have S3 := Lib.hid hx3; have HB3 := Lib.hid ((HB1.out.setCell (show w.heap.size ≤ (Addr.block ⟨w.heap.size + 1 + 1 + 1, 0, none⟩) by show w.heap.size ≤ w.heap.size + 1 + 1 + 1; omega) (.bool false)).trans (hb3.mono (by rw [World.size_setCell]; omega))); have c30 := (C2.out.below hb3 C2.out.lt).cell 0; have cl3 := hx3.l.cell 0; have cp3 := hx3.p.cell 0; have cf3 := hx3.f.cell 0; have cw3 := hx3.w.cell 0; have fl3 := hx3.l.free 0; have fp3 := hx3.p.free 0; have ff3 := hx3.f.free 0; have fw3 := hx3.w.free 0; simp at c30 cl3 cp3 cf3 cw3; clear hb3 hx3 d1 d2 d3 fw1 cw1))
            go_roundw
            case rel => exact ⟨i + 1, ⟨0, s.pend, s.fr, false⟩, Lib.hid (fold_next hf.out (by rw [HN.out]; exact HST.out)), by go_num, hlt, S3.out, HB3.out⟩
            case measure => simp [intOf]; omega
          · by_cases n3 : L = 0
            · omega
            · clear n1
              have b2 : (N != 0) = true := by rw [bne_iff_ne]; exact n2
              have b3 : (L == 0) = false := by rw [beq_eq_false_iff_ne]; exact n3
              go_wp2_with (first | (go_at_call 65; refine (settle_any w.heap.size s (z i 0) _ (HS.out.alloc _)).mono ?_; rintro e w1 ⟨rfl, s1, hb1, ho1⟩; have C1 := Lib.hid (show Cel w1 wr.heap.size #[.int .i64 (z i 0), .int .i64 (z i 1), .int .i64 (z i 2), .int .i64 (z i 3)] 30 from (ho1 wr.heap.size (by omega)).trans (Cel.new _ _ _)); obtain ⟨x1, hx1⟩ : ∃ x1, StW w.heap.size ⟨lim1 s (z i 0), s.pend, s.fr, x1⟩ w1 := ⟨_, by rw [settle_eq] at s1; exact s1⟩; rw [HL.out] at hx1; have S1 := Lib.hid hx1; have HB1 := Lib.hid ((hbel.alloc hbel.size (.cells #[.int .i64 (z i 0), .int .i64 (z i 1), .int .i64 (z i 2), .int .i64 (z i 3)] 30)).trans hb1); have fw1 := hx1.w.free 0; have cw1 : w1.cell? ⟨w.heap.size + 1 + 1 + 1, 0, none⟩ = some (.bool x1) := hx1.w.cell 0; have hsz1 := hx1.w.lt; have C2 := Lib.hid (C1.out.other (a := ⟨w.heap.size + 1 + 1 + 1, 0, none⟩) (show wr.heap.size ≠ w.heap.size + 1 + 1 + 1 by omega) (.bool false)); have d1 : (w1.setCell ⟨w.heap.size + 1 + 1 + 1, 0, none⟩ (.bool false)).cell? ⟨wr.heap.size, 1, none⟩ = some (.int .i64 (z i 1)) := C2.out.cell 1; have d2 : (w1.setCell ⟨w.heap.size + 1 + 1 + 1, 0, none⟩ (.bool false)).cell? ⟨wr.heap.size, 2, none⟩ = some (.int .i64 (z i 2)) := C2.out.cell 2; have d3 : (w1.setCell ⟨w.heap.size + 1 + 1 + 1, 0, none⟩ (.bool false)).cell? ⟨wr.heap.size, 3, none⟩ = some (.int .i64 (z i 3)) := C2.out.cell 3; clear s1 hb1 ho1 hx1) | (go_at_call 30; refine (each_any _ _ _ _).mono ?_; rintro e w3 ⟨rfl, hb3⟩; have hx3 := (S1.out.stW false).below hb3 (by rw [World.size_setCell]; exact hsz1); have S3 := Lib.hid hx3; have HB3 := Lib.hid ((HB1.out.setCell (show w.heap.size ≤ (Addr.block ⟨w.heap.size + 1 + 1 + 1, 0, none⟩) by show w.heap.size ≤ w.heap.size + 1 + 1 + 1; omega) (.bool false)).trans (hb3.mono (by rw [World.size_setCell]; omega))); have c30 := (C2.out.below hb3 C2.out.lt).cell 0; have cl3 := hx3.l.cell 0; have cp3 := hx3.p.cell 0; have cf3 := hx3.f.cell 0; have cw3 := hx3.w.cell 0; have fl3 := hx3.l.free 0; have fp3 := hx3.p.free 0; have ff3 := hx3.f.free 0; have fw3 := hx3.w.free 0; simp at c30 cl3 cp3 cf3 cw3; clear hb3 hx3 d1 d2 d3 fw1 cw1))
              go_roundw
              case rel => exact ⟨i + 1, ⟨L, s.pend, s.fr, false⟩, Lib.hid (fold_next hf.out (by rw [HN.out]; exact HST.out)), by go_num, hlt, S3.out, HB3.out⟩
              case measure => simp [intOf]; omega
        · have b1 : (N != L) = true := by rw [bne_iff_ne]; exact n1
          by_cases n2 : N = 0
          · have HST := Lib.hid (step_c HL.out n1 (by omega))
            subst n2
            go_wp2_with (first | (go_at_call 65; refine (settle_any w.heap.size s (z i 0) _ (HS.out.alloc _)).mono ?_; rintro e w1 ⟨rfl, s1, hb1, ho1⟩; have C1 := Lib.hid (show Cel w1 wr.heap.size #[.int .i64 (z i 0), .int .i64 (z i 1), .int .i64 (z i 2), .int .i64 (z i 3)] 30 from (ho1 wr.heap.size (by omega)).trans (Cel.new _ _ _)); obtain ⟨x1, hx1⟩ : ∃ x1, StW w.heap.size ⟨lim1 s (z i 0), s.pend, s.fr, x1⟩ w1 := ⟨_, by rw [settle_eq] at s1; exact s1⟩; rw [HL.out] at hx1; have S1 := Lib.hid hx1; have HB1 := Lib.hid ((hbel.alloc hbel.size (.cells #[.int .i64 (z i 0), .int .i64 (z i 1), .int .i64 (z i 2), .int .i64 (z i 3)] 30)).trans hb1); have fw1 := hx1.w.free 0; have cw1 : w1.cell? ⟨w.heap.size + 1 + 1 + 1, 0, none⟩ = some (.bool x1) := hx1.w.cell 0; have hsz1 := hx1.w.lt; have C2 := Lib.hid (C1.out.other (a := ⟨w.heap.size + 1 + 1 + 1, 0, none⟩) (show wr.heap.size ≠ w.heap.size + 1 + 1 + 1 by omega) (.bool false)); have d1 : (w1.setCell ⟨w.heap.size + 1 + 1 + 1, 0, none⟩ (.bool false)).cell? ⟨wr.heap.size, 1, none⟩ = some (.int .i64 (z i 1)) := C2.out.cell 1; have d2 : (w1.setCell ⟨w.heap.size + 1 + 1 + 1, 0, none⟩ (.bool false)).cell? ⟨wr.heap.size, 2, none⟩ = some (.int .i64 (z i 2)) := C2.out.cell 2; have d3 : (w1.setCell ⟨w.heap.size + 1 + 1 + 1, 0, none⟩ (.bool false)).cell? ⟨wr.heap.size, 3, none⟩ = some (.int .i64 (z i 3)) := C2.out.cell 3; clear s1 hb1 ho1 hx1) | (go_at_call 30; refine (each_any _ _ _ _).mono ?_; rintro e w3 ⟨rfl, hb3⟩; have hx3 := (S1.out.stW false).below hb3 (by rw [World.size_setCell]; exact hsz1); have S3 := Lib.hid hx3; have HB3 := Lib.hid ((HB1.out.setCell (show w.heap.size ≤ (Addr.block ⟨w.heap.size + 1 + 1 + 1, 0, none⟩) by show w.heap.size ≤ w.heap.size + 1 + 1 + 1; omega) (.bool false)).trans (hb3.mono (by rw [World.size_setCell]; omega))); have c30 := (C2.out.below hb3 C2.out.lt).cell 0; have cl3 := hx3.l.cell 0; have cp3 := hx3.p.cell 0; have cf3 := hx3.f.cell 0; have cw3 := hx3.w.cell 0; have fl3 := hx3.l.free 0; have fp3 := hx3.p.free 0; have ff3 := hx3.f.free 0; have fw3 := hx3.w.free 0; simp at c30 cl3 cp3 cf3 cw3; clear hb3 hx3 d1 d2 d3 fw1 cw1))
            go_region
            go_wp2
            go_roundw
            case rel => exact ⟨i + 1, ⟨L, 0, z i 0 + 10080, true⟩, Lib.hid (fold_next hf.out (by rw [HN.out]; exact HST.out)), by go_num, hlt, (((S3.out.stP 0).stF (z i 0 + 10080)).stW true).drew, (((HB3.out.setCell (p := ⟨w.heap.size + 1, 0, none⟩) (by show w.heap.size ≤ w.heap.size + 1; omega) _).setCell (p := ⟨w.heap.size + 1 + 1, 0, none⟩) (by show w.heap.size ≤ w.heap.size + 2; omega) _).setCell (p := ⟨w.heap.size + 1 + 1 + 1, 0, none⟩) (by show w.heap.size ≤ w.heap.size + 3; omega) _).drew⟩
            case measure => simp [intOf]; omega
          · by_cases n3 : L = 0
            · have HST := Lib.hid (step_a HL.out n2 (.inl n3))
              have b2 : (N != 0) = true := by rw [bne_iff_ne]; exact n2
              subst n3
              go_wp2_with (first | (go_at_call 65; refine (settle_any w.heap.size s (z i 0) _ (HS.out.alloc _)).mono ?_; rintro e w1 ⟨rfl, s1, hb1, ho1⟩; have C1 := Lib.hid (show Cel w1 wr.heap.size #[.int .i64 (z i 0), .int .i64 (z i 1), .int .i64 (z i 2), .int .i64 (z i 3)] 30 from (ho1 wr.heap.size (by omega)).trans (Cel.new _ _ _)); obtain ⟨x1, hx1⟩ : ∃ x1, StW w.heap.size ⟨lim1 s (z i 0), s.pend, s.fr, x1⟩ w1 := ⟨_, by rw [settle_eq] at s1; exact s1⟩; rw [HL.out] at hx1; have S1 := Lib.hid hx1; have HB1 := Lib.hid ((hbel.alloc hbel.size (.cells #[.int .i64 (z i 0), .int .i64 (z i 1), .int .i64 (z i 2), .int .i64 (z i 3)] 30)).trans hb1); have fw1 := hx1.w.free 0; have cw1 : w1.cell? ⟨w.heap.size + 1 + 1 + 1, 0, none⟩ = some (.bool x1) := hx1.w.cell 0; have hsz1 := hx1.w.lt; have C2 := Lib.hid (C1.out.other (a := ⟨w.heap.size + 1 + 1 + 1, 0, none⟩) (show wr.heap.size ≠ w.heap.size + 1 + 1 + 1 by omega) (.bool false)); have d1 : (w1.setCell ⟨w.heap.size + 1 + 1 + 1, 0, none⟩ (.bool false)).cell? ⟨wr.heap.size, 1, none⟩ = some (.int .i64 (z i 1)) := C2.out.cell 1; have d2 : (w1.setCell ⟨w.heap.size + 1 + 1 + 1, 0, none⟩ (.bool false)).cell? ⟨wr.heap.size, 2, none⟩ = some (.int .i64 (z i 2)) := C2.out.cell 2; have d3 : (w1.setCell ⟨w.heap.size + 1 + 1 + 1, 0, none⟩ (.bool false)).cell? ⟨wr.heap.size, 3, none⟩ = some (.int .i64 (z i 3)) := C2.out.cell 3; clear s1 hb1 ho1 hx1) | (go_at_call 30; refine (each_any _ _ _ _).mono ?_; rintro e w3 ⟨rfl, hb3⟩; have hx3 := (S1.out.stW false).below hb3 (by rw [World.size_setCell]; exact hsz1); have S3 := Lib.hid hx3; have HB3 := Lib.hid ((HB1.out.setCell (show w.heap.size ≤ (Addr.block ⟨w.heap.size + 1 + 1 + 1, 0, none⟩) by show w.heap.size ≤ w.heap.size + 1 + 1 + 1; omega) (.bool false)).trans (hb3.mono (by rw [World.size_setCell]; omega))); have c30 := (C2.out.below hb3 C2.out.lt).cell 0; have cl3 := hx3.l.cell 0; have cp3 := hx3.p.cell 0; have cf3 := hx3.f.cell 0; have cw3 := hx3.w.cell 0; have fl3 := hx3.l.free 0; have fp3 := hx3.p.free 0; have ff3 := hx3.f.free 0; have fw3 := hx3.w.free 0; simp at c30 cl3 cp3 cf3 cw3; clear hb3 hx3 d1 d2 d3 fw1 cw1))
              go_roundw
              case rel => exact ⟨i + 1, ⟨N, s.pend, s.fr, false⟩, Lib.hid (fold_next hf.out (by rw [HN.out]; exact HST.out)), by go_num, hlt, S3.out.stL N, HB3.out.setCell (Nat.le_refl _) _⟩
              case measure => simp [intOf]; omega
            · have b2 : (N != 0) = true := by rw [bne_iff_ne]; exact n2
              have b3 : (L == 0) = false := by rw [beq_eq_false_iff_ne]; exact n3
              by_cases n4 : N < L
              · have HST := Lib.hid (step_a HL.out n2 (.inr n4))
                go_wp2_with (first | (go_at_call 65; refine (settle_any w.heap.size s (z i 0) _ (HS.out.alloc _)).mono ?_; rintro e w1 ⟨rfl, s1, hb1, ho1⟩; have C1 := Lib.hid (show Cel w1 wr.heap.size #[.int .i64 (z i 0), .int .i64 (z i 1), .int .i64 (z i 2), .int .i64 (z i 3)] 30 from (ho1 wr.heap.size (by omega)).trans (Cel.new _ _ _)); obtain ⟨x1, hx1⟩ : ∃ x1, StW w.heap.size ⟨lim1 s (z i 0), s.pend, s.fr, x1⟩ w1 := ⟨_, by rw [settle_eq] at s1; exact s1⟩; rw [HL.out] at hx1; have S1 := Lib.hid hx1; have HB1 := Lib.hid ((hbel.alloc hbel.size (.cells #[.int .i64 (z i 0), .int .i64 (z i 1), .int .i64 (z i 2), .int .i64 (z i 3)] 30)).trans hb1); have fw1 := hx1.w.free 0; have cw1 : w1.cell? ⟨w.heap.size + 1 + 1 + 1, 0, none⟩ = some (.bool x1) := hx1.w.cell 0; have hsz1 := hx1.w.lt; have C2 := Lib.hid (C1.out.other (a := ⟨w.heap.size + 1 + 1 + 1, 0, none⟩) (show wr.heap.size ≠ w.heap.size + 1 + 1 + 1 by omega) (.bool false)); have d1 : (w1.setCell ⟨w.heap.size + 1 + 1 + 1, 0, none⟩ (.bool false)).cell? ⟨wr.heap.size, 1, none⟩ = some (.int .i64 (z i 1)) := C2.out.cell 1; have d2 : (w1.setCell ⟨w.heap.size + 1 + 1 + 1, 0, none⟩ (.bool false)).cell? ⟨wr.heap.size, 2, none⟩ = some (.int .i64 (z i 2)) := C2.out.cell 2; have d3 : (w1.setCell ⟨w.heap.size + 1 + 1 + 1, 0, none⟩ (.bool false)).cell? ⟨wr.heap.size, 3, none⟩ = some (.int .i64 (z i 3)) := C2.out.cell 3; clear s1 hb1 ho1 hx1) | (go_at_call 30; refine (each_any _ _ _ _).mono ?_; rintro e w3 ⟨rfl, hb3⟩; have hx3 := (S1.out.stW false).below hb3 (by rw [World.size_setCell]; exact hsz1); have S3 := Lib.hid hx3; have HB3 := Lib.hid ((HB1.out.setCell (show w.heap.size ≤ (Addr.block ⟨w.heap.size + 1 + 1 + 1, 0, none⟩) by show w.heap.size ≤ w.heap.size + 1 + 1 + 1; omega) (.bool false)).trans (hb3.mono (by rw [World.size_setCell]; omega))); have c30 := (C2.out.below hb3 C2.out.lt).cell 0; have cl3 := hx3.l.cell 0; have cp3 := hx3.p.cell 0; have cf3 := hx3.f.cell 0; have cw3 := hx3.w.cell 0; have fl3 := hx3.l.free 0; have fp3 := hx3.p.free 0; have ff3 := hx3.f.free 0; have fw3 := hx3.w.free 0; simp at c30 cl3 cp3 cf3 cw3; clear hb3 hx3 d1 d2 d3 fw1 cw1))
                go_roundw
                case rel => exact ⟨i + 1, ⟨N, s.pend, s.fr, false⟩, Lib.hid (fold_next hf.out (by rw [HN.out]; exact HST.out)), by go_num, hlt, S3.out.stL N, HB3.out.setCell (Nat.le_refl _) _⟩
                case measure => simp [intOf]; omega
              · have HST := Lib.hid (step_c HL.out n1 (by omega))
                have b4 : decide (N < L) = false := decide_eq_false n4
                go_wp2_with (first | (go_at_call 65; refine (settle_any w.heap.size s (z i 0) _ (HS.out.alloc _)).mono ?_; rintro e w1 ⟨rfl, s1, hb1, ho1⟩; have C1 := Lib.hid (show Cel w1 wr.heap.size #[.int .i64 (z i 0), .int .i64 (z i 1), .int .i64 (z i 2), .int .i64 (z i 3)] 30 from (ho1 wr.heap.size (by omega)).trans (Cel.new _ _ _)); obtain ⟨x1, hx1⟩ : ∃ x1, StW w.heap.size ⟨lim1 s (z i 0), s.pend, s.fr, x1⟩ w1 := ⟨_, by rw [settle_eq] at s1; exact s1⟩; rw [HL.out] at hx1; have S1 := Lib.hid hx1; have HB1 := Lib.hid ((hbel.alloc hbel.size (.cells #[.int .i64 (z i 0), .int .i64 (z i 1), .int .i64 (z i 2), .int .i64 (z i 3)] 30)).trans hb1); have fw1 := hx1.w.free 0; have cw1 : w1.cell? ⟨w.heap.size + 1 + 1 + 1, 0, none⟩ = some (.bool x1) := hx1.w.cell 0; have hsz1 := hx1.w.lt; have C2 := Lib.hid (C1.out.other (a := ⟨w.heap.size + 1 + 1 + 1, 0, none⟩) (show wr.heap.size ≠ w.heap.size + 1 + 1 + 1 by omega) (.bool false)); have d1 : (w1.setCell ⟨w.heap.size + 1 + 1 + 1, 0, none⟩ (.bool false)).cell? ⟨wr.heap.size, 1, none⟩ = some (.int .i64 (z i 1)) := C2.out.cell 1; have d2 : (w1.setCell ⟨w.heap.size + 1 + 1 + 1, 0, none⟩ (.bool false)).cell? ⟨wr.heap.size, 2, none⟩ = some (.int .i64 (z i 2)) := C2.out.cell 2; have d3 : (w1.setCell ⟨w.heap.size + 1 + 1 + 1, 0, none⟩ (.bool false)).cell? ⟨wr.heap.size, 3, none⟩ = some (.int .i64 (z i 3)) := C2.out.cell 3; clear s1 hb1 ho1 hx1) | (go_at_call 30; refine (each_any _ _ _ _).mono ?_; rintro e w3 ⟨rfl, hb3⟩; have hx3 := (S1.out.stW false).below hb3 (by rw [World.size_setCell]; exact hsz1); have S3 := Lib.hid hx3; have HB3 := Lib.hid ((HB1.out.setCell (show w.heap.size ≤ (Addr.block ⟨w.heap.size + 1 + 1 + 1, 0, none⟩) by show w.heap.size ≤ w.heap.size + 1 + 1 + 1; omega) (.bool false)).trans (hb3.mono (by rw [World.size_setCell]; omega))); have c30 := (C2.out.below hb3 C2.out.lt).cell 0; have cl3 := hx3.l.cell 0; have cp3 := hx3.p.cell 0; have cf3 := hx3.f.cell 0; have cw3 := hx3.w.cell 0; have fl3 := hx3.l.free 0; have fp3 := hx3.p.free 0; have ff3 := hx3.f.free 0; have fw3 := hx3.w.free 0; simp at c30 cl3 cp3 cf3 cw3; clear hb3 hx3 d1 d2 d3 fw1 cw1))
                go_region
                go_wp2
                go_roundw
                case rel => exact ⟨i + 1, ⟨L, N, z i 0 + 10080, true⟩, Lib.hid (fold_next hf.out (by rw [HN.out]; exact HST.out)), by go_num, hlt, (((S3.out.stP N).stF (z i 0 + 10080)).stW true).drew, (((HB3.out.setCell (p := ⟨w.heap.size + 1, 0, none⟩) (by show w.heap.size ≤ w.heap.size + 1; omega) _).setCell (p := ⟨w.heap.size + 1 + 1, 0, none⟩) (by show w.heap.size ≤ w.heap.size + 2; omega) _).setCell (p := ⟨w.heap.size + 1 + 1 + 1, 0, none⟩) (by show w.heap.size ≤ w.heap.size + 3; omega) _).drew⟩
                case measure => simp [intOf]; omega
    · obtain rfl : i = len := by omega
      have HE := Lib.hid (eff_lim (t := t) hf.out)
      obtain ⟨L, hL⟩ : ∃ L, lim1 s t = L := ⟨_, rfl⟩
      rw [hL] at HE
      have HL := Lib.hid hL
      clear hL
      go_wp2_with (go_at_call 65; refine (settle_any w.heap.size s t _ HS.out).mono ?_; rintro e w1 ⟨rfl, s1, hb1, ho1⟩; rw [settle_eq, HL.out] at s1; have cl1 := s1.l.cell 0; simp at cl1; have HB1 := Lib.hid (hbel.trans hb1); clear hb1 s1 ho1)
      go_ret
      exact ⟨ret_int HE.out.symm, HB1.out⟩
end Go.Proofs.YtainelkenkgppaaDoor
