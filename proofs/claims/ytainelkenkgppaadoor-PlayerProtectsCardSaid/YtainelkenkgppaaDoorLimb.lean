/- limit.Spent and its reference compute the same three sums; the law LimitSpends. -/
import Derived.Test.YtainelkenkgppaaDoorLima
namespace Go.Proofs.YtainelkenkgppaaDoor
open Go.ChangeShapes Go.WideShapes Go.ChangeAt Go.RowKit Go.Lott

def spN (z : Nat → Nat → Int) (len : Nat) (t kind : Int) : Int := if isT t then clamp (sm z (perF t kind) (perL t kind) len) else 0
def spV (z : Nat → Nat → Int) (len : Nat) (t : Int) : Value := .agg #[.int .i64 (spN z len t 1), .int .i64 (spN z len t 2), .int .i64 (spN z len t 3)]
theorem spN_yes {z : Nat → Nat → Int} {len : Nat} {t : Int} (h : isT t = true) (kind : Int) : clamp (sm z (perF t kind) (perL t kind) len) = spN z len t kind := by unfold spN; rw [h]; rfl
theorem spN_no {z : Nat → Nat → Int} {len : Nat} {t : Int} (h : isT t = false) (kind : Int) : 0 = spN z len t kind := by unfold spN; rw [h]; rfl
theorem spV_yes {z : Nat → Nat → Int} {len : Nat} {t : Int} (h : isT t = true) : Value.agg #[.int .i64 (clamp (sm z (perF t 1) (perL t 1) len)), .int .i64 (clamp (sm z (perF t 2) (perL t 2) len)), .int .i64 (clamp (sm z (perF t 3) (perL t 3) len))] = spV z len t := by
  rw [spN_yes h 1, spN_yes h 2, spN_yes h 3]; rfl
theorem spV_no {z : Nat → Nat → Int} {len : Nat} {t : Int} (h : isT t = false) : Value.agg #[.int .i64 0, .int .i64 0, .int .i64 0] = spV z len t := by
  unfold spV; rw [← spN_no h 1, ← spN_no h 2, ← spN_no h 3]
set_option maxHeartbeats 2000000 in
theorem Spent_any (t : Int) (a : Option Addr) (len cap : Nat) (z : Nat → Nat → Int) (w : World) (ht : Tab w) (hlen : len ≤ 300) (hr : IsRows 2 w a len z) :
    Calls Tryd.prog 13 #[.slice a len cap, .int .i64 t] w (RetB (spV z len t) w) := by
  have HT := Lib.hid ht
  have HR := Lib.hid hr
  clear ht hr
  by_cases hd : isT t = true
  · have HV := Lib.hid (spV_yes (z := z) (len := len) hd)
    go_enter Tryd.func13, Tryd.ntmps13
    go_wp2_with (go_at_call 29; refine (lIsTime_any _ _).mono ?_; rintro e w' ⟨rfl, rfl⟩)
    generalize hW0 : ((w.alloc (Obj.cells #[Value.slice a len cap] 22)).alloc (Obj.cells #[Value.int IntKind.i64 t] 3)).alloc (Obj.cells #[Value.int IntKind.i64 0, Value.int IntKind.i64 0, Value.int IntKind.i64 0] 28) = W0
    have hb0 : Below w.heap.size w W0 := by rw [← hW0]; exact (((Below.refl _ _).alloc (Nat.le_refl _) _).alloc (by simp) _).alloc (by simp; omega) _
    have hs0 : W0.heap.size = w.heap.size + 3 := by rw [← hW0]; simp
    have ha0 : W0.cell? ⟨w.heap.size, 0, none⟩ = some (.slice a len cap) := by rw [← hW0]; clear hW0; go_simp
    have ht0 : W0.cell? ⟨w.heap.size + 1, 0, none⟩ = some (.int .i64 t) := by rw [← hW0]; clear hW0; go_simp
    have hl0 : W0.cell? ⟨w.heap.size + 1 + 1, 0, none⟩ = some (.int .i64 0) ∧ W0.cell? ⟨w.heap.size + 1 + 1, 1, none⟩ = some (.int .i64 0) ∧ W0.cell? ⟨w.heap.size + 1 + 1, 2, none⟩ = some (.int .i64 0) := by rw [← hW0]; clear hW0; go_simp
    have hf0 : W0.frozen? ⟨w.heap.size + 1 + 1, 0, none⟩ = false ∧ W0.frozen? ⟨w.heap.size + 1 + 1, 1, none⟩ = false ∧ W0.frozen? ⟨w.heap.size + 1 + 1, 2, none⟩ = false := by rw [← hW0]; clear hW0; go_simp
    clear hW0
    refine (Spent1_any 1 t a len cap z _ _ _ (HT.out.grow hb0) (by omega) (by omega) hd hlen ht0 ha0 (HR.out.below hb0 (Nat.le_refl _))).mono ?_
    rintro e w1 ⟨rfl, hb1⟩
    have hz0 := hb0.size
    have hx1 := hb0.trans (hb1.mono hz0)
    go_wp2_with fail
    refine (Spent1_any 2 t a len cap z _ _ _ (HT.out.grow hx1) (by omega) (by omega) hd hlen ((hb1.cell (p := ⟨_, _, none⟩) (by simp; omega)).trans ht0) ((hb1.cell (p := ⟨_, _, none⟩) (by simp; omega)).trans ha0) (HR.out.below hx1 (Nat.le_refl _))).mono ?_
    rintro e w2 ⟨rfl, hb2⟩
    have hy2 := hb1.trans (hb2.mono hb1.size)
    have hx2 := hb0.trans (hy2.mono hz0)
    go_wp2_with fail
    refine (Spent1_any 3 t a len cap z _ _ _ (HT.out.grow hx2) (by omega) (by omega) hd hlen ((hy2.cell (p := ⟨_, _, none⟩) (by simp; omega)).trans ht0) ((hy2.cell (p := ⟨_, _, none⟩) (by simp; omega)).trans ha0) (HR.out.below hx2 (Nat.le_refl _))).mono ?_
    rintro e w3 ⟨rfl, hb3⟩
    have hy3 := hy2.trans (hb3.mono hy2.size)
    have hx3 := hb0.trans (hy3.mono hz0)
    have l0 := (hy3.cell (p := ⟨w.heap.size + 1 + 1, 0, none⟩) (by simp; omega)).trans hl0.1
    have l1 := (hy3.cell (p := ⟨w.heap.size + 1 + 1, 1, none⟩) (by simp; omega)).trans hl0.2.1
    have l2 := (hy3.cell (p := ⟨w.heap.size + 1 + 1, 2, none⟩) (by simp; omega)).trans hl0.2.2
    have z0 := (hy3.frozen (p := ⟨w.heap.size + 1 + 1, 0, none⟩) (by simp; omega)).trans hf0.1
    have z1 := (hy3.frozen (p := ⟨w.heap.size + 1 + 1, 1, none⟩) (by simp; omega)).trans hf0.2.1
    have z2 := (hy3.frozen (p := ⟨w.heap.size + 1 + 1, 2, none⟩) (by simp; omega)).trans hf0.2.2
    clear hs0 ha0 ht0 hl0 hf0
    go_wp2
    refine bodyPost_ret (v := .agg #[.int .i64 (clamp (sm z (perF t 1) (perL t 1) len)), .int .i64 (clamp (sm z (perF t 2) (perL t 2) len)), .int .i64 (clamp (sm z (perF t 3) (perL t 3) len))]) (by simp [results, Tryd.results13, go_sem, l0, l1, l2]) rfl ⟨congrArg _ HV.out, ?_⟩
    exact ((hx3.setCell (by simp; omega) _).setCell (by simp; omega) _).setCell (by simp; omega) _
  · have hd' : isT t = false := by simpa using hd
    have HV := Lib.hid (spV_no (z := z) (len := len) hd')
    clear hd
    go_enter Tryd.func13, Tryd.ntmps13
    go_wp2_with (go_at_call 29; refine (lIsTime_any _ _).mono ?_; rintro e w' ⟨rfl, rfl⟩)
    refine bodyPost_ret (v := .agg #[.int .i64 0, .int .i64 0, .int .i64 0]) (by simp [results, Tryd.results13, go_sem]) rfl ⟨congrArg _ HV.out, ?_⟩
    exact (((Below.refl _ _).alloc (Nat.le_refl _) _).alloc (by simp) _).alloc (by simp; omega) _
set_option maxRecDepth 100000 in
set_option maxHeartbeats 2000000 in
theorem rSum_any (kind t : Int) (a : Option Addr) (len cap : Nat) (z : Nat → Nat → Int) (w : World) (hlen : len ≤ 300) (hr : IsRows 2 w a len z) :
    Calls Tryd.prog 68 #[.slice a len cap, .int .i64 t, .int .i64 kind] w (RetB (.int .i64 (clamp (sm z (perF t kind) (perL t kind) len))) w) := by
  have HR := Lib.hid hr
  have hbel := Below.refl w.heap.size w
  clear hr
  go_enter Tryd.func68, Tryd.ntmps68
  go_wp2_with (go_at_call 82; refine (rPeriod_any _ _ _ trivial).mono ?_; rintro e w1 ⟨rfl, hb1⟩; replace hbel := hbel.trans (hb1.mono hbel.size); clear hb1)
  go_loopw [10, 11] (fun v i wr => ∃ k : Nat, k ≤ len ∧ i = .int .i64 k ∧ v = .int .i64 (sm z (perF t kind) (perL t kind) k) ∧ Below w.heap.size w wr) (fun _ i _ => len - (intOf i).toNat)
  case atStart => exact ⟨0, by omega, by simp, rfl, hbel⟩
  case round =>
    clear hbel
    obtain ⟨k, hk, rfl, rfl, hbel⟩ := hrel
    by_cases hlt : k < len
    · rcases HR.out with h0 | ⟨b, o, ha, hb, hm, hcell⟩
      · omega
      · subst ha
        have c0 : wr.cell? ⟨b, o + k * 2, none⟩ = some (.int .i64 (z k 0)) := (hbel.cell (p := ⟨b, _, none⟩) hb).trans (hcell k 0 hlt (by omega))
        have c1 : wr.cell? ⟨b, o + k * 2 + 1, none⟩ = some (.int .i64 (z k 1)) := (hbel.cell (p := ⟨b, _, none⟩) hb).trans (hcell k 1 hlt (by omega))
        clear hcell
        have sb := sm_bd z (perF t kind) (perL t kind) k
        by_cases g1 : perF t kind ≤ z k 0
        · by_cases g2 : z k 0 ≤ perL t kind
          · by_cases g3 : -1000000000000 ≤ z k 1
            · by_cases g4 : z k 1 ≤ 1000000000000
              · have HS := Lib.hid (sm_yes (z := z) (f := perF t kind) (t := perL t kind) (k := k) (by simp [cnt]; omega))
                go_wp2
                go_roundw
                case rel => exact ⟨k + 1, by omega, by go_num, by rw [HS.out], hbel⟩
                case measure => simp [intOf]; omega
              · have HS := Lib.hid (sm_no (z := z) (f := perF t kind) (t := perL t kind) (k := k) (by simp [cnt]; omega))
                go_wp2
                go_roundw
                case rel => exact ⟨k + 1, by omega, by go_num, by rw [HS.out], hbel⟩
                case measure => simp [intOf]; omega
            · have HS := Lib.hid (sm_no (z := z) (f := perF t kind) (t := perL t kind) (k := k) (by simp [cnt]; omega))
              go_wp2
              go_roundw
              case rel => exact ⟨k + 1, by omega, by go_num, by rw [HS.out], hbel⟩
              case measure => simp [intOf]; omega
          · have HS := Lib.hid (sm_no (z := z) (f := perF t kind) (t := perL t kind) (k := k) (by simp [cnt]; omega))
            go_wp2
            go_roundw
            case rel => exact ⟨k + 1, by omega, by go_num, by rw [HS.out], hbel⟩
            case measure => simp [intOf]; omega
        · have HS := Lib.hid (sm_no (z := z) (f := perF t kind) (t := perL t kind) (k := k) (by simp [cnt]; omega))
          go_wp2
          go_roundw
          case rel => exact ⟨k + 1, by omega, by go_num, by rw [HS.out], hbel⟩
          case measure => simp [intOf]; omega
    · obtain rfl : k = len := by omega
      have hcw := clamp_ways (n := sm z (perF t kind) (perL t kind) k)
      rcases hcw with ⟨h1, h2⟩ | ⟨h1, h2, h3⟩ | ⟨h1, h2, h3⟩
      · have HC := Lib.hid h2; clear h2
        go_wp2
        go_ret
        exact ⟨ret_int HC.out.symm, hbel⟩
      · have HC := Lib.hid h3; clear h3
        go_wp2
        go_ret
        exact ⟨ret_int HC.out.symm, hbel⟩
      · have HC := Lib.hid h3; clear h3
        go_wp2
        go_ret
        exact ⟨ret_int HC.out.symm, hbel⟩
set_option maxHeartbeats 2000000 in
theorem rSpent_any (t : Int) (a : Option Addr) (len cap : Nat) (z : Nat → Nat → Int) (w : World) (hlen : len ≤ 300) (hr : IsRows 2 w a len z) :
    Calls Tryd.prog 41 #[.slice a len cap, .int .i64 t] w (RetB (spV z len t) w) := by
  have HR := Lib.hid hr
  clear hr
  by_cases hd : isT t = true
  · have HV := Lib.hid (spV_yes (z := z) (len := len) hd)
    go_enter Tryd.func41, Tryd.ntmps41
    go_wp2_with (go_at_call 39; refine (r21IsTime_any _ _).mono ?_; rintro e w' ⟨rfl, rfl⟩)
    have hb0 : Below w.heap.size w (w.alloc (Obj.cells #[Value.int IntKind.i64 0, Value.int IntKind.i64 0, Value.int IntKind.i64 0] 28)) := (Below.refl _ _).alloc (Nat.le_refl _) _
    refine (rSum_any 1 t a len cap z _ hlen (HR.out.below hb0 (Nat.le_refl _))).mono ?_
    rintro e w1 ⟨rfl, hb1⟩
    have hx1 := hb0.trans (hb1.mono hb0.size)
    go_wp2_with fail
    refine (rSum_any 2 t a len cap z _ hlen (HR.out.below hx1 (Nat.le_refl _))).mono ?_
    rintro e w2 ⟨rfl, hb2⟩
    have hy2 := hb1.trans (hb2.mono hb1.size)
    have hx2 := hb0.trans (hy2.mono hb0.size)
    go_wp2_with fail
    refine (rSum_any 3 t a len cap z _ hlen (HR.out.below hx2 (Nat.le_refl _))).mono ?_
    rintro e w3 ⟨rfl, hb3⟩
    have hy3 := hy2.trans (hb3.mono hy2.size)
    have hx3 := hb0.trans (hy3.mono hb0.size)
    obtain ⟨l0, z0⟩ := bcell hy3
    go_wp2
    refine bodyPost_ret (v := .agg #[.int .i64 (clamp (sm z (perF t 1) (perL t 1) len)), .int .i64 (clamp (sm z (perF t 2) (perL t 2) len)), .int .i64 (clamp (sm z (perF t 3) (perL t 3) len))]) (by simp [results, Tryd.results41, go_sem, l0]) rfl ⟨congrArg _ HV.out, ?_⟩
    exact ((hx3.setCell (by simp) _).setCell (by simp) _).setCell (by simp) _
  · have hd' : isT t = false := by simpa using hd
    have HV := Lib.hid (spV_no (z := z) (len := len) hd')
    clear hd
    go_enter Tryd.func41, Tryd.ntmps41
    go_wp2_with (go_at_call 39; refine (r21IsTime_any _ _).mono ?_; rintro e w' ⟨rfl, rfl⟩)
    refine bodyPost_ret (v := .agg #[.int .i64 0, .int .i64 0, .int .i64 0]) (by simp [results, Tryd.results41, go_sem]) rfl ⟨congrArg _ HV.out, ?_⟩
    exact (Below.refl _ _).alloc (Nat.le_refl _) _
theorem Spent_t (t : Int) (a : Option Addr) (len cap : Nat) (z : Nat → Nat → Int) (w : World) (ht : Tab w) (hlen : len ≤ 300) (hr : IsRows 2 w a len z) :
    Calls Tryd.prog 13 #[.slice a len cap, .int .i64 t] w (RetB (.agg #[.int .i64 (spN z len t 1), .int .i64 (spN z len t 2), .int .i64 (spN z len t 3)]) w) := Spent_any t a len cap z w ht hlen hr
theorem rSpent_t (t : Int) (a : Option Addr) (len cap : Nat) (z : Nat → Nat → Int) (w : World) (hlen : len ≤ 300) (hr : IsRows 2 w a len z) :
    Calls Tryd.prog 41 #[.slice a len cap, .int .i64 t] w (RetB (.agg #[.int .i64 (spN z len t 1), .int .i64 (spN z len t 2), .int .i64 (spN z len t 3)]) w) := rSpent_any t a len cap z w hlen hr
end Go.Proofs.YtainelkenkgppaaDoor
