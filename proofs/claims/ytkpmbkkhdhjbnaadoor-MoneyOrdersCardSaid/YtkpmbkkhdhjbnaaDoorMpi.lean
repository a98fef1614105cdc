/- The laws MoneySplits, MoneyOrders: their walks. -/
import Derived.Test.YtkpmbkkhdhjbnaaDoorMpg
import Derived.Test.YtkpmbkkhdhjbnaaDoorSpx
namespace Go.Proofs.YtkpmbkkhdhjbnaaDoor
open Go.ChangeShapes Go.WideShapes Go.ChangeAt Go.RowKit Go.Lott
open Go.Lott.Spl Go.Lott.Mny
set_option maxHeartbeats 4000000 in
set_option maxRecDepth 100000 in
theorem moneySplits_walk (m : Int) (a : Option Addr) (n cap : Nat) (z : Nat → Int) (W : World) (_ : (Lit.int .i64 m).wf = true) (hz : IsRow W a n z ∧ n ≤ cap) (hp : P10 W) :
    Calls Tryd.prog 4 #[.int .i64 m, .slice a n cap] W (RetB (.bool true) W) := by
  have HT := Lib.hid hp
  have HR := Lib.hid hz.1
  clear hp hz
  by_cases hs : splE m n z = 0
  · have hk := sok_of hs
    have HK := Lib.hid hk
    have m0 := hk.m0
    have m1 := hk.m1
    have n1 := hk.n1
    have n2 := hk.n2
    clear hs hk
    have H2 := Lib.hid (fun w hr => Split_ok m a n cap z w hr HK.out)
    have hv := fun w => Valid_any m w
    rw [(amB_iff m).2 ⟨m0, m1⟩] at hv
    have HV := Lib.hid hv
    obtain ⟨b, o, rfl, hbb, _, hcell⟩ := HR.out.resolve_left (by omega)
    have HCL := Lib.hid hcell
    have nn1 : (n : Int) ≤ 64 := by omega
    clear hcell hv
    go_enter Tryd.func4, Tryd.ntmps4
    go_wp2_with (first
      | (go_at_call 11; ((with_reducible refine (H2.out _ HR.out).mono ?_); rintro e w1 ⟨hb1, b1, c1, P, rfl, r1, s1⟩; have HR1 := Lib.hid r1; have HS1 := Lib.hid s1; have HB1 := Lib.hid hb1; clear r1 s1 hb1))
      | (go_at_call 15; ((with_reducible refine (HV.out _).mono ?_); rintro e w' ⟨rfl, rfl⟩)))
    have hsz1 := HB1.out.size
    go_loop [7, 40] (fun vp vi => ∃ k : Nat, k ≤ n ∧ vi = .int .i64 k ∧ vp = .int .i64 (Spl.sm z k)) (fun _ vi => n - (intOf vi).toNat)
    case atStart => exact ⟨0, by omega, rfl, rfl⟩
    case round =>
      obtain ⟨k, hk, rfl, rfl⟩ := hrel
      by_cases hlt : k < n
      · have c1 : w1.cell? ⟨b, o + k, none⟩ = some (.int .i64 (z k)) := (HB1.out.cell (p := ⟨b, _, none⟩) hbb).trans (HCL.out k hlt)
        obtain ⟨v1, v2⟩ := HK.out.wv k hlt
        have hvk := fun w => Valid_any (z k) w
        rw [(amB_iff _).2 ⟨v1, v2⟩] at hvk
        have HVK := Lib.hid hvk
        have k1 : (0 : Int) ≤ (k : Int) := by omega
        have k2 : (k : Int) < (n : Int) := by omega
        have s0 : 0 ≤ Spl.sm z k := sm_nonneg (fun j hj => (HK.out.wv j (by omega)).1)
        have s1 : Spl.sm z k ≤ 64000000000000 := by
          have h1 := sm_mono (f := z) (fun j hj => (HK.out.wv j hj).1) hk
          have h2 := HK.out.tle; omega
        have HN := Lib.hid (show Spl.sm z (k + 1) = Spl.sm z k + z k from rfl)
        clear hvk
        go_wp2_with (go_at_call 15; ((with_reducible refine (HVK.out _).mono ?_); rintro e w' ⟨rfl, rfl⟩))
        go_round
        case rel => exact ⟨k + 1, hlt, by go_num, by rw [HN.out]⟩
        case measure => simp [intOf]; omega
      · obtain rfl : k = n := by omega
        go_wp2
        go_loopw [9, 59] (fun vl vi wr => ∃ j : Nat, j ≤ k ∧ vi = .int .i64 j ∧ vl = .int .i64 (m - Spl.sm P j) ∧ Below w1.heap.size w1 wr) (fun _ vi _ => k - (intOf vi).toNat)
        case atStart => exact ⟨0, by omega, rfl, by simp [Spl.sm], Below.refl _ _⟩
        case round =>
          obtain ⟨j, hj, rfl, rfl, hbel⟩ := hrel
          have hbs := hbel.size
          by_cases hjk : j < k
          · have cz : wr.cell? ⟨b, o + j, none⟩ = some (.int .i64 (z j)) := (hbel.cell (p := ⟨b, _, none⟩) (by show b < w1.heap.size; omega)).trans ((HB1.out.cell (p := ⟨b, _, none⟩) hbb).trans (HCL.out j hjk))
            obtain ⟨b', o', ea, hb', _, hc'⟩ := HR1.out.resolve_left (by omega)
            injection ea with ea
            injection ea with e1 e2
            subst e1
            subst e2
            have cp := hc' j hjk
            rw [Nat.zero_add] at cp
            obtain ⟨q0, q1, r0, r1, _⟩ := HK.out.q hjk
            obtain ⟨wj0, wj1⟩ := HK.out.wv j hjk
            have ht := HK.out.tle
            have htl := HK.out.t1
            obtain ⟨p0, p1⟩ := HS1.out.pos HK.out hjk
            have hx := HS1.out.exact HK.out hjk
            have hs0 := sm_nonneg (f := P) (n := j) (fun i hi => (HS1.out.pos HK.out (show i < k by omega)).1)
            have hs1 := sm_mono (f := P) (n := k) (fun i hi => (HS1.out.pos HK.out hi).1) hj
            rw [HS1.out.total HK.out] at hs1
            have HN := Lib.hid (show Spl.sm P (j + 1) = Spl.sm P j + P j from rfl)
            have hmd := fun w => rMulDiv_any m (z j) (Spl.sm z k) w (by omega) (by omega) (by omega) (by omega) (by omega) (by omega)
            obtain ⟨x1, x2, x3⟩ := md_fine (a := m) (b := z j) (c := Spl.sm z k) ⟨m0, wj0, htl⟩ (show m * z j / Spl.sm z k ≤ _ from (by have : m * z j / Spl.sm z k ≤ m := q1; omega))
            unfold mdV at hmd
            rw [← x1, ← x2, ← x3] at hmd
            have HMD : Hid (∀ w, Calls Tryd.prog 16 #[.int .i64 m, .int .i64 (z j), .int .i64 (Spl.sm z k)] w (RetB (.tuple #[.int .i64 (qv m (Spl.sm z k) z j), .int .i64 (rv m (Spl.sm z k) z j), .int .i64 0]) w)) := Lib.hid (fun w => toB (hmd w))
            clear hmd x1 x2 x3 hc'
            have HCP := Lib.hid cp
            clear cp
            generalize qv m (Spl.sm z k) z j = q at *
            generalize rv m (Spl.sm z k) z j = r at *
            have j1 : (0 : Int) ≤ (j : Int) := by omega
            have j2 : (j : Int) < (k : Int) := by omega
            by_cases hpq : P j = q
            · have t1 : (P j != q) = false := by rw [bne_eq_false_iff_eq]; exact hpq
              clear hx hpq
              go_wp2_with (go_at_call 16; ((with_reducible refine (HMD.out _).mono ?_); rintro e w2 ⟨rfl, hb2⟩; have hbel2 := hbel.trans (hb2.mono hbs); have cq := (hbel2.cell (p := ⟨b1, _, none⟩) hb').trans HCP.out; clear hb2))
              go_roundw
              case rel => exact ⟨j + 1, hjk, by go_num, by rw [HN.out]; congr 1; omega, hbel2⟩
              case measure => simp [intOf]; omega
            · obtain ⟨hx1, hx2⟩ := hx.resolve_left hpq
              have t1 : (P j != q) = true := by rw [bne_iff_ne]; exact hpq
              have t2 : (P j - 1 != q) = false := by rw [bne_eq_false_iff_eq]; exact hx1
              have t3 : (r == 0) = false := by rw [beq_eq_false_iff_ne]; exact hx2
              clear hx hpq hx1 hx2
              go_wp2_with (go_at_call 16; ((with_reducible refine (HMD.out _).mono ?_); rintro e w2 ⟨rfl, hb2⟩; have hbel2 := hbel.trans (hb2.mono hbs); have cq := (hbel2.cell (p := ⟨b1, _, none⟩) hb').trans HCP.out; clear hb2))
              go_roundw
              case rel => exact ⟨j + 1, hjk, by go_num, by rw [HN.out]; congr 1; omega, hbel2⟩
              case measure => simp [intOf]; omega
          · obtain rfl : j = k := by omega
            have hz : m - Spl.sm P j = 0 := by rw [HS1.out.total HK.out]; omega
            rw [hz]
            have hbt := HB1.out.trans (hbel.mono hsz1)
            go_wp2_with (go_at_call 14; ((with_reducible refine (mawake_any _ (HT.out.grow (hbt))).mono ?_); rintro e w9 ⟨rfl, hb9⟩; have HB9 := Lib.hid ((hbt).trans (hb9.mono (hbt).size)); clear hb9))
            go_ret
            exact ⟨rfl, HB9.out⟩
  · have H2 := Lib.hid (fun w hr => Split_err m a n cap z w hr hs)
    have he1 : (splE m n z != 0) = true := by rw [bne_iff_ne]; exact hs
    generalize splE m n z = E at *
    clear hs
    go_enter Tryd.func4, Tryd.ntmps4
    go_wp2_with (first
      | (go_at_call 11; ((with_reducible refine (H2.out _ HR.out).mono ?_); rintro e w1 ⟨rfl, hb1⟩; have HB1 := Lib.hid hb1; clear hb1))
      | (go_at_call 14; ((with_reducible refine (mawake_any _ (HT.out.grow (HB1.out))).mono ?_); rintro e w9 ⟨rfl, hb9⟩; have HB9 := Lib.hid ((HB1.out).trans (hb9.mono (HB1.out).size)); clear hb9)))
    go_ret
    exact ⟨rfl, HB9.out⟩
set_option maxHeartbeats 8000000 in
set_option maxRecDepth 100000 in
theorem moneyOrders_walk (m : Int) (a : Option Addr) (n cap : Nat) (z : Nat → Int) (W : World) (_ : (Lit.int .i64 m).wf = true) (hz : IsRow W a n z ∧ n ≤ cap) (hp : P10 W) :
    Calls Tryd.prog 5 #[.int .i64 m, .slice a n cap] W (RetB (.bool true) W) := by
  have HT := Lib.hid hp
  have HR := Lib.hid hz.1
  clear hp hz
  by_cases hs : splE m n z = 0
  · have hk := sok_of hs
    have HK := Lib.hid hk
    have m1 := hk.m1
    have n1 := hk.n1
    have n2 := hk.n2
    clear hs hk
    have H2 := Lib.hid (fun w hr => Split_ok m a n cap z w hr HK.out)
    obtain ⟨b, o, rfl, hbb, _, hcell⟩ := HR.out.resolve_left (by omega)
    have HCL := Lib.hid hcell
    have nn1 : (n : Int) ≤ 64 := by omega
    clear hcell
    go_enter Tryd.func5, Tryd.ntmps5
    go_wp2_with (go_at_call 11; ((with_reducible refine (H2.out _ HR.out).mono ?_); rintro e w1 ⟨hb1, b1, c1, P, rfl, r1, s1⟩; have HR1 := Lib.hid r1; have HS1 := Lib.hid s1; have HB1 := Lib.hid hb1; clear r1 s1 hb1))
    have hsz1 := HB1.out.size
    obtain ⟨b', o', ea, hb', _, hc'⟩ := HR1.out.resolve_left (by omega)
    injection ea with ea
    injection ea with e1 e2
    subst e1
    subst e2
    have HCP := Lib.hid hc'
    clear hc'
    go_loopw [25] (fun vi wr => ∃ i : Nat, i ≤ n ∧ vi = .int .i64 i ∧ Below w1.heap.size w1 wr) (fun vi _ => n - (intOf vi).toNat)
    case atStart => exact ⟨0, by omega, rfl, Below.refl _ _⟩
    case round =>
      obtain ⟨i, hi, rfl, hbel⟩ := hrel
      have hbs := hbel.size
      by_cases hin : i < n
      · go_wp2
        go_loopw [30] (fun vk wr => ∃ k : Nat, k ≤ n ∧ vk = .int .i64 k ∧ Below w1.heap.size w1 wr) (fun vk _ => n - (intOf vk).toNat)
        case atStart => exact ⟨0, by omega, rfl, hbel⟩
        case round =>
          clear hbel hbs
          obtain ⟨k, hk, rfl, hbt⟩ := hrel
          by_cases hkn : k < n
          · have HCI := Lib.hid (fun (W' : World) (hb : Below w1.heap.size w1 W') => (show W'.cell? ⟨b, o + i, none⟩ = some (.int .i64 (z i)) from (hb.cell (p := ⟨b, _, none⟩) (by show b < w1.heap.size; omega)).trans ((HB1.out.cell (p := ⟨b, _, none⟩) hbb).trans (HCL.out i hin))))
            have HCK := Lib.hid (fun (W' : World) (hb : Below w1.heap.size w1 W') => (show W'.cell? ⟨b, o + k, none⟩ = some (.int .i64 (z k)) from (hb.cell (p := ⟨b, _, none⟩) (by show b < w1.heap.size; omega)).trans ((HB1.out.cell (p := ⟨b, _, none⟩) hbb).trans (HCL.out k hkn))))
            have HPI := Lib.hid (fun (W' : World) (hb : Below w1.heap.size w1 W') => (show W'.cell? ⟨b1, i, none⟩ = some (.int .i64 (P i)) from (hb.cell (p := ⟨b1, _, none⟩) hb').trans (by have := HCP.out i hin; rwa [Nat.zero_add] at this)))
            have HPK := Lib.hid (fun (W' : World) (hb : Below w1.heap.size w1 W') => (show W'.cell? ⟨b1, k, none⟩ = some (.int .i64 (P k)) from (hb.cell (p := ⟨b1, _, none⟩) hb').trans (by have := HCP.out k hkn; rwa [Nat.zero_add] at this)))
            obtain ⟨pi0, pi1⟩ := HS1.out.pos HK.out hin
            obtain ⟨pk0, pk1⟩ := HS1.out.pos HK.out hkn
            have i1 : (0 : Int) ≤ (i : Int) := by omega
            have i2 : (i : Int) < (n : Int) := by omega
            have k1 : (0 : Int) ≤ (k : Int) := by omega
            have k2 : (k : Int) < (n : Int) := by omega
            have wsub : IntKind.i64.wrap (P i - P k) = P i - P k := IntWalk.i64_in _ (by omega)
            by_cases hA : z k < z i
            · have h1 := HS1.out.more HK.out hin hkn hA
              have a1 : decide (z k < z i) = true := decide_eq_true hA
              have a2 : decide (P i < P k) = false := decide_eq_false (by omega)
              have a3 : (z i == z k) = false := by rw [beq_eq_false_iff_ne]; omega
              clear hA h1
              have s1 : ∀ x : Sub (wr).heap.size wr, x.w.cell? ⟨b, o + i, none⟩ = some (.int .i64 (z i)) := Sub.cell (HCI.out _ hbt) (by have := hbt.size; show b < _; omega)
              have s2 : ∀ x : Sub (wr).heap.size wr, x.w.cell? ⟨b, o + k, none⟩ = some (.int .i64 (z k)) := Sub.cell (HCK.out _ hbt) (by have := hbt.size; show b < _; omega)
              have s3 : ∀ x : Sub (wr).heap.size wr, x.w.cell? ⟨b1, i, none⟩ = some (.int .i64 (P i)) := Sub.cell (HPI.out _ hbt) (by have := hbt.size; show b1 < _; omega)
              have s4 : ∀ x : Sub (wr).heap.size wr, x.w.cell? ⟨b1, k, none⟩ = some (.int .i64 (P k)) := Sub.cell (HPK.out _ hbt) (by have := hbt.size; show b1 < _; omega)
              go_wp2
              refine wp_region_below (by kernel_rfl) (by kernel_rfl) ?_
              repeat (go_big_quiet_step (fail))
              refine wpQuiet_nil ?_
              rintro w2 ⟨⟨_, hb2⟩, rfl⟩
              replace hbt := hbt.trans (hb2.mono (by have := hbt.size; omega))
              clear s1 s2 s3 s4 hb2
              have s1 : ∀ x : Sub (w2).heap.size w2, x.w.cell? ⟨b, o + i, none⟩ = some (.int .i64 (z i)) := Sub.cell (HCI.out _ hbt) (by have := hbt.size; show b < _; omega)
              have s2 : ∀ x : Sub (w2).heap.size w2, x.w.cell? ⟨b, o + k, none⟩ = some (.int .i64 (z k)) := Sub.cell (HCK.out _ hbt) (by have := hbt.size; show b < _; omega)
              have s3 : ∀ x : Sub (w2).heap.size w2, x.w.cell? ⟨b1, i, none⟩ = some (.int .i64 (P i)) := Sub.cell (HPI.out _ hbt) (by have := hbt.size; show b1 < _; omega)
              have s4 : ∀ x : Sub (w2).heap.size w2, x.w.cell? ⟨b1, k, none⟩ = some (.int .i64 (P k)) := Sub.cell (HPK.out _ hbt) (by have := hbt.size; show b1 < _; omega)
              go_wp2
              refine wp_region_below (by kernel_rfl) (by kernel_rfl) ?_
              repeat (go_big_quiet_step (fail))
              refine wpQuiet_nil ?_
              rintro w3 ⟨⟨_, hb3⟩, rfl⟩
              replace hbt := hbt.trans (hb3.mono (by have := hbt.size; omega))
              clear s1 s2 s3 s4 hb3
              go_wp2
              go_roundw
              case rel => exact ⟨k + 1, by omega, by go_num, hbt⟩
              case measure => simp [intOf]; omega
            · have a1 : decide (z k < z i) = false := decide_eq_false hA
              by_cases hE : z i = z k
              · have a3 : (z i == z k) = true := by rw [beq_iff_eq]; exact hE
                by_cases hL : i < k
                · obtain ⟨h1, h2⟩ := HS1.out.same hin hkn hE hL
                  have a4 : decide ((i : Int) < (k : Int)) = true := decide_eq_true (by omega)
                  have a2 : decide (P i < P k) = false := decide_eq_false (by omega)
                  have a5 : decide (1 < P i - P k) = false := decide_eq_false (by omega)
                  clear hA hE h1 h2
                  have s1 : ∀ x : Sub (wr).heap.size wr, x.w.cell? ⟨b, o + i, none⟩ = some (.int .i64 (z i)) := Sub.cell (HCI.out _ hbt) (by have := hbt.size; show b < _; omega)
                  have s2 : ∀ x : Sub (wr).heap.size wr, x.w.cell? ⟨b, o + k, none⟩ = some (.int .i64 (z k)) := Sub.cell (HCK.out _ hbt) (by have := hbt.size; show b < _; omega)
                  have s3 : ∀ x : Sub (wr).heap.size wr, x.w.cell? ⟨b1, i, none⟩ = some (.int .i64 (P i)) := Sub.cell (HPI.out _ hbt) (by have := hbt.size; show b1 < _; omega)
                  have s4 : ∀ x : Sub (wr).heap.size wr, x.w.cell? ⟨b1, k, none⟩ = some (.int .i64 (P k)) := Sub.cell (HPK.out _ hbt) (by have := hbt.size; show b1 < _; omega)
                  go_wp2
                  refine wp_region_below (by kernel_rfl) (by kernel_rfl) ?_
                  repeat (go_big_quiet_step (fail))
                  refine wpQuiet_nil ?_
                  rintro w2 ⟨⟨_, hb2⟩, rfl⟩
                  replace hbt := hbt.trans (hb2.mono (by have := hbt.size; omega))
                  clear s1 s2 s3 s4 hb2
                  have s1 : ∀ x : Sub (w2).heap.size w2, x.w.cell? ⟨b, o + i, none⟩ = some (.int .i64 (z i)) := Sub.cell (HCI.out _ hbt) (by have := hbt.size; show b < _; omega)
                  have s2 : ∀ x : Sub (w2).heap.size w2, x.w.cell? ⟨b, o + k, none⟩ = some (.int .i64 (z k)) := Sub.cell (HCK.out _ hbt) (by have := hbt.size; show b < _; omega)
                  have s3 : ∀ x : Sub (w2).heap.size w2, x.w.cell? ⟨b1, i, none⟩ = some (.int .i64 (P i)) := Sub.cell (HPI.out _ hbt) (by have := hbt.size; show b1 < _; omega)
                  have s4 : ∀ x : Sub (w2).heap.size w2, x.w.cell? ⟨b1, k, none⟩ = some (.int .i64 (P k)) := Sub.cell (HPK.out _ hbt) (by have := hbt.size; show b1 < _; omega)
                  go_wp2
                  refine wp_region_below (by kernel_rfl) (by kernel_rfl) ?_
                  repeat (go_big_quiet_step (fail))
                  refine wpQuiet_nil ?_
                  rintro w3 ⟨⟨_, hb3⟩, rfl⟩
                  replace hbt := hbt.trans (hb3.mono (by have := hbt.size; omega))
                  clear s1 s2 s3 s4 hb3
                  go_wp2
                  go_roundw
                  case rel => exact ⟨k + 1, by omega, by go_num, hbt⟩
                  case measure => simp [intOf]; omega
                · have a4 : decide ((i : Int) < (k : Int)) = false := decide_eq_false (by omega)
                  clear hA hE
                  have s1 : ∀ x : Sub (wr).heap.size wr, x.w.cell? ⟨b, o + i, none⟩ = some (.int .i64 (z i)) := Sub.cell (HCI.out _ hbt) (by have := hbt.size; show b < _; omega)
                  have s2 : ∀ x : Sub (wr).heap.size wr, x.w.cell? ⟨b, o + k, none⟩ = some (.int .i64 (z k)) := Sub.cell (HCK.out _ hbt) (by have := hbt.size; show b < _; omega)
                  have s3 : ∀ x : Sub (wr).heap.size wr, x.w.cell? ⟨b1, i, none⟩ = some (.int .i64 (P i)) := Sub.cell (HPI.out _ hbt) (by have := hbt.size; show b1 < _; omega)
                  have s4 : ∀ x : Sub (wr).heap.size wr, x.w.cell? ⟨b1, k, none⟩ = some (.int .i64 (P k)) := Sub.cell (HPK.out _ hbt) (by have := hbt.size; show b1 < _; omega)
                  go_wp2
                  refine wp_region_below (by kernel_rfl) (by kernel_rfl) ?_
                  repeat (go_big_quiet_step (fail))
                  refine wpQuiet_nil ?_
                  rintro w2 ⟨⟨_, hb2⟩, rfl⟩
                  replace hbt := hbt.trans (hb2.mono (by have := hbt.size; omega))
                  clear s1 s2 s3 s4 hb2
                  have s1 : ∀ x : Sub (w2).heap.size w2, x.w.cell? ⟨b, o + i, none⟩ = some (.int .i64 (z i)) := Sub.cell (HCI.out _ hbt) (by have := hbt.size; show b < _; omega)
                  have s2 : ∀ x : Sub (w2).heap.size w2, x.w.cell? ⟨b, o + k, none⟩ = some (.int .i64 (z k)) := Sub.cell (HCK.out _ hbt) (by have := hbt.size; show b < _; omega)
                  have s3 : ∀ x : Sub (w2).heap.size w2, x.w.cell? ⟨b1, i, none⟩ = some (.int .i64 (P i)) := Sub.cell (HPI.out _ hbt) (by have := hbt.size; show b1 < _; omega)
                  have s4 : ∀ x : Sub (w2).heap.size w2, x.w.cell? ⟨b1, k, none⟩ = some (.int .i64 (P k)) := Sub.cell (HPK.out _ hbt) (by have := hbt.size; show b1 < _; omega)
                  go_wp2
                  refine wp_region_below (by kernel_rfl) (by kernel_rfl) ?_
                  repeat (go_big_quiet_step (fail))
                  refine wpQuiet_nil ?_
                  rintro w3 ⟨⟨_, hb3⟩, rfl⟩
                  replace hbt := hbt.trans (hb3.mono (by have := hbt.size; omega))
                  clear s1 s2 s3 s4 hb3
                  go_wp2
                  go_roundw
                  case rel => exact ⟨k + 1, by omega, by go_num, hbt⟩
                  case measure => simp [intOf]; omega
              · have a3 : (z i == z k) = false := by rw [beq_eq_false_iff_ne]; exact hE
                clear hA hE
                have s1 : ∀ x : Sub (wr).heap.size wr, x.w.cell? ⟨b, o + i, none⟩ = some (.int .i64 (z i)) := Sub.cell (HCI.out _ hbt) (by have := hbt.size; show b < _; omega)
                have s2 : ∀ x : Sub (wr).heap.size wr, x.w.cell? ⟨b, o + k, none⟩ = some (.int .i64 (z k)) := Sub.cell (HCK.out _ hbt) (by have := hbt.size; show b < _; omega)
                have s3 : ∀ x : Sub (wr).heap.size wr, x.w.cell? ⟨b1, i, none⟩ = some (.int .i64 (P i)) := Sub.cell (HPI.out _ hbt) (by have := hbt.size; show b1 < _; omega)
                have s4 : ∀ x : Sub (wr).heap.size wr, x.w.cell? ⟨b1, k, none⟩ = some (.int .i64 (P k)) := Sub.cell (HPK.out _ hbt) (by have := hbt.size; show b1 < _; omega)
                go_wp2
                refine wp_region_below (by kernel_rfl) (by kernel_rfl) ?_
                repeat (go_big_quiet_step (fail))
                refine wpQuiet_nil ?_
                rintro w2 ⟨⟨_, hb2⟩, rfl⟩
                replace hbt := hbt.trans (hb2.mono (by have := hbt.size; omega))
                clear s1 s2 s3 s4 hb2
                have s1 : ∀ x : Sub (w2).heap.size w2, x.w.cell? ⟨b, o + i, none⟩ = some (.int .i64 (z i)) := Sub.cell (HCI.out _ hbt) (by have := hbt.size; show b < _; omega)
                have s2 : ∀ x : Sub (w2).heap.size w2, x.w.cell? ⟨b, o + k, none⟩ = some (.int .i64 (z k)) := Sub.cell (HCK.out _ hbt) (by have := hbt.size; show b < _; omega)
                have s3 : ∀ x : Sub (w2).heap.size w2, x.w.cell? ⟨b1, i, none⟩ = some (.int .i64 (P i)) := Sub.cell (HPI.out _ hbt) (by have := hbt.size; show b1 < _; omega)
                have s4 : ∀ x : Sub (w2).heap.size w2, x.w.cell? ⟨b1, k, none⟩ = some (.int .i64 (P k)) := Sub.cell (HPK.out _ hbt) (by have := hbt.size; show b1 < _; omega)
                go_wp2
                refine wp_region_below (by kernel_rfl) (by kernel_rfl) ?_
                repeat (go_big_quiet_step (fail))
                refine wpQuiet_nil ?_
                rintro w3 ⟨⟨_, hb3⟩, rfl⟩
                replace hbt := hbt.trans (hb3.mono (by have := hbt.size; omega))
                clear s1 s2 s3 s4 hb3
                go_wp2
                go_roundw
                case rel => exact ⟨k + 1, by omega, by go_num, hbt⟩
                case measure => simp [intOf]; omega
          · obtain rfl : k = n := by omega
            go_wp2
            go_roundw
            case rel => exact ⟨i + 1, by omega, by go_num, hbt⟩
            case measure => simp [intOf]; omega
      · obtain rfl : i = n := by omega
        have hbt := HB1.out.trans (hbel.mono hsz1)
        go_wp2_with (go_at_call 14; ((with_reducible refine (mawake_any _ (HT.out.grow (hbt))).mono ?_); rintro e w9 ⟨rfl, hb9⟩; have HB9 := Lib.hid ((hbt).trans (hb9.mono (hbt).size)); clear hb9))
        go_ret
        exact ⟨rfl, HB9.out⟩
  · have H2 := Lib.hid (fun w hr => Split_err m a n cap z w hr hs)
    have he1 : (splE m n z != 0) = true := by rw [bne_iff_ne]; exact hs
    generalize splE m n z = E at *
    clear hs
    go_enter Tryd.func5, Tryd.ntmps5
    go_wp2_with (first
      | (go_at_call 11; ((with_reducible refine (H2.out _ HR.out).mono ?_); rintro e w1 ⟨rfl, hb1⟩; have HB1 := Lib.hid hb1; clear hb1))
      | (go_at_call 14; ((with_reducible refine (mawake_any _ (HT.out.grow (HB1.out))).mono ?_); rintro e w9 ⟨rfl, hb9⟩; have HB9 := Lib.hid ((HB1.out).trans (hb9.mono (HB1.out).size)); clear hb9)))
    go_ret
    exact ⟨rfl, HB9.out⟩
end Go.Proofs.YtkpmbkkhdhjbnaaDoor
