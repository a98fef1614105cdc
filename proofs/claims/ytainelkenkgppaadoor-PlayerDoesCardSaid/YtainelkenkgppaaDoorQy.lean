/- The reference's object: Allow, Charge. -/
import Derived.Test.YtainelkenkgppaaDoorQx
import Derived.Test.YtainelkenkgppaaDoorPls
import Derived.Test.YtainelkenkgppaaDoorPlt
namespace Go.Proofs.YtainelkenkgppaaDoor
open Go.ChangeShapes Go.WideShapes Go.ChangeAt Go.RowKit Go.Lott
open Go.Sort Go.Lott.Stb Go.Lott.Srt Go.Lott.Lm
section
variable {w : World} {B p : Nat} {τ : Rl} {S : PSt} {vl : Value} {V : Nat → Nat → Value}
def alI (x : PRec) (t m : Int) : Int := if barred x.ex t then 20 else alN (zP x.hi) x.hi.length (zC x.ch) x.ch.length t m
theorem alI_yes {x : PRec} {t m : Int} (h : barred x.ex t = true) : 20 = alI x t m := by unfold alI; rw [h]; rfl
theorem alI_no {x : PRec} {t m : Int} (h : barred x.ex t = false) : alN (zP x.hi) x.hi.length (zC x.ch) x.ch.length t m = alI x t m := by unfold alI; rw [h]; rfl
set_option maxHeartbeats 4000000 in
set_option maxRecDepth 100000 in
theorem qAllow_ok (h : QObj w B τ p S vl V) (hsz : Sz S 300) {id t a : Int} (hk : knE (basE id t S.now) (knw S id) = 0) :
    Calls Tryd.prog 53 #[.pointer (some ⟨p, 0, none⟩), .int .i64 id, .int .i64 t, .int .i64 a] w (RetB (.int .i64 (alI (thr S id) t a)) w) := by
  have hkn := (knE_zero hk).2
  have hkl := knw_iff.1 hkn
  have HF := Lib.hid (qknown_ok h (Nat.le_trans hsz.1 (by omega)) hk)
  obtain ⟨l, cl, hvl, hll⟩ := h.form (Nat.lt_of_le_of_lt (Nat.zero_le _) hkl)
  obtain ⟨x, hx⟩ : ∃ x, x = thr S id := ⟨_, rfl⟩
  have hr0 := h.rw _ 0 hkl (by omega)
  have hr1 := h.rw _ 1 hkl (by omega)
  have hr2 := h.rw _ 2 hkl (by omega)
  rw [rOf_thr, ← hx] at hr0 hr1 hr2
  obtain ⟨a0, c0, e0, w0⟩ := hr0.rows0
  obtain ⟨a1, c1, e1, w1⟩ := hr1.rows1
  obtain ⟨a2, c2, e2, w2⟩ := hr2.rows2
  obtain ⟨_, g0, g1, g2⟩ := h.cells hvl hkl
  have gp := h.cp.cell 0
  have hpl := h.cp.lt
  rw [e0] at g0
  rw [e1] at g1
  rw [e2] at g2
  rw [hvl] at gp
  simp at gp
  have hs := hsz.thr id
  rw [← hx] at hs
  rw [← hx]
  obtain ⟨K, hK⟩ : ∃ K, K = fnd S.rs id := ⟨_, rfl⟩
  obtain ⟨N, hN⟩ : ∃ N, N = S.rs.length := ⟨_, rfl⟩
  rw [← hK] at HF hkl g0 g1 g2
  rw [← hN] at gp hkl
  have hK0 : (0 : Int) ≤ (K : Int) := by omega
  have hK1 : (K : Int) < (N : Int) := by omega
  obtain ⟨n1, hn1⟩ : ∃ n1, n1 = x.ex.length := ⟨_, rfl⟩
  obtain ⟨n0, hn0⟩ : ∃ n0, n0 = x.ch.length := ⟨_, rfl⟩
  obtain ⟨n2, hn2⟩ : ∃ n2, n2 = x.hi.length := ⟨_, rfl⟩
  have hal := fun y (hb : Below w.heap.size w y) => rAllow_any a2 x.hi.length c2 (zP x.hi) a0 x.ch.length c0 (zC x.ch) t a y (by omega) (by omega) (w2.below hb (Nat.le_refl _)) (w0.below hb (Nat.le_refl _))
  obtain ⟨E, hE⟩ : ∃ E, E = alN (zP x.hi) x.hi.length (zC x.ch) x.ch.length t a := ⟨_, rfl⟩
  have HN := Lib.hid (show barred x.ex t = false → E = alI x t a from fun hb => by rw [hE]; exact alI_no hb)
  have HY := Lib.hid (show barred x.ex t = true → 20 = alI x t a from fun hb => alI_yes hb)
  have HBA := Lib.hid (fun (hb : ∀ j, j < n1 → ¬ (zP x.ex j 0 ≤ t ∧ t ≤ zP x.ex j 1)) => barred_all (l := x.ex) (t := t) (by rw [← hn1]; exact hb))
  have HBB := Lib.hid (fun (k : Nat) (hk : k < n1) (h1 : zP x.ex k 0 ≤ t) (h2 : t ≤ zP x.ex k 1) => barred_at (l := x.ex) (t := t) (k := k) (by rw [← hn1]; exact hk) h1 h2)
  rw [← hE, ← hn0, ← hn2] at hal
  rw [← hn1] at w1 g1
  rw [← hn0] at g0
  rw [← hn2] at g2
  have HAL := Lib.hid hal
  have HC := Lib.hid (show ∀ y, Below w.heap.size w y → y.cell? ⟨p, 0, none⟩ = some (.slice (some ⟨l, 0, none⟩) N cl) ∧ y.cell? ⟨l, K * 4 + 1, none⟩ = some (.slice a0 n0 c0) ∧ y.cell? ⟨l, K * 4 + 2, none⟩ = some (.slice a1 n1 c1) ∧ y.cell? ⟨l, K * 4 + 3, none⟩ = some (.slice a2 n2 c2) from
    fun y hy => ⟨(hy.cell (p := ⟨p, 0, none⟩) hpl).trans gp, (hy.cell (p := ⟨l, _, none⟩) hll).trans g0, (hy.cell (p := ⟨l, _, none⟩) hll).trans g1, (hy.cell (p := ⟨l, _, none⟩) hll).trans g2⟩)
  have HW1 := Lib.hid w1
  have hle : n1 ≤ 300 := by omega
  obtain ⟨m0, m1, m2, m3⟩ := HC.out w (Below.refl _ _)
  clear h hsz hk hkn hx hr0 hr1 hr2 e0 e1 e2 w0 w1 w2 hs hn0 hn1 hn2 hE hal gp g0 g1 g2 hK hN hvl
  go_enter Tryd.func53, Tryd.ntmps53
  go_wp2_with (go_at_call 75; refine HF.out.mono ?_; rintro e w' ⟨rfl, rfl⟩)
  clear m0 m1 m2 m3
  go_loopw [11] (fun vk wr => ∃ k : Nat, vk = .int .i64 k ∧ k ≤ n1 ∧ (∀ j, j < k → ¬ (zP x.ex j 0 ≤ t ∧ t ≤ zP x.ex j 1)) ∧ Below w.heap.size w wr) (fun vk _ => n1 - (intOf vk).toNat)
  case atStart => exact ⟨0, by go_num, Nat.zero_le _, fun j hj => by omega, Below.refl _ _⟩
  case round =>
    obtain ⟨k, rfl, hk, hall, hbel⟩ := hrel
    have HA := Lib.hid hall
    clear hall
    obtain ⟨m0, m1, m2, m3⟩ := HC.out wr hbel
    have hlr : l < wr.heap.size := Nat.lt_of_lt_of_le hll hbel.size
    have hpr : p < wr.heap.size := Nat.lt_of_lt_of_le hpl hbel.size
    by_cases hlt : k < n1
    · obtain ⟨b, o, rfl, hbb, _, hcell⟩ := HW1.out.resolve_left (by omega)
      have d0 : wr.cell? ⟨b, o + k * 2, none⟩ = some (.int .i64 (zP x.ex k 0)) := (hbel.cell (p := ⟨b, _, none⟩) hbb).trans (hcell k 0 hlt (by omega))
      have d1 : wr.cell? ⟨b, o + k * 2 + 1, none⟩ = some (.int .i64 (zP x.ex k 1)) := (hbel.cell (p := ⟨b, _, none⟩) hbb).trans (hcell k 1 hlt (by omega))
      clear hcell
      by_cases h1 : zP x.ex k 0 ≤ t
      · by_cases h2 : t ≤ zP x.ex k 1
        · have HV := Lib.hid (HY.out (HBB.out k hlt h1 h2))
          go_wp2
          go_ret
          exact ⟨ret_int HV.out, hbel.alloc hbel.size _⟩
        · have h2' : zP x.ex k 1 < t := by omega
          have HV := Lib.hid h2
          clear h2
          go_wp2
          go_roundw
          case rel => exact ⟨k + 1, by go_num, hlt, fun j hj => by
            rcases Nat.lt_or_ge j k with c | c
            · exact HA.out j c
            · obtain rfl : j = k := by omega
              exact fun c => HV.out c.2, hbel.alloc hbel.size _⟩
          case measure => simp [intOf]; omega
      · have h1' : t < zP x.ex k 0 := by omega
        have HV := Lib.hid h1
        clear h1
        go_wp2
        go_roundw
        case rel => exact ⟨k + 1, by go_num, hlt, fun j hj => by
          rcases Nat.lt_or_ge j k with c | c
          · exact HA.out j c
          · obtain rfl : j = k := by omega
            exact fun c => HV.out c.1, hbel.alloc hbel.size _⟩
        case measure => simp [intOf]; omega
    · obtain rfl : k = n1 := by omega
      have HV := Lib.hid (HN.out (HBA.out HA.out))
      have HBL := Lib.hid hbel
      have s0 : ∀ y : Sub wr.heap.size wr, y.w.cell? ⟨p, 0, none⟩ = some (.slice (some ⟨l, 0, none⟩) N cl) := Sub.cell m0 hpr
      have s1 : ∀ y : Sub wr.heap.size wr, y.w.cell? ⟨l, K * 4 + 1, none⟩ = some (.slice a0 n0 c0) := Sub.cell m1 hlr
      have s3 : ∀ y : Sub wr.heap.size wr, y.w.cell? ⟨l, K * 4 + 3, none⟩ = some (.slice a2 n2 c2) := Sub.cell m3 hlr
      have HAS := Lib.hid (fun y : Sub wr.heap.size wr => HAL.out y.w (hbel.trans (y.h.mono hbel.size)))
      go_wp2
      refine wp_region_below (by kernel_rfl) (by kernel_rfl) ?_
      repeat (go_big_quiet_step ((go_at_call 17; exact Sub.ofB _ (Nat.le_refl _) (HAS.out _))))
      refine wpQuiet_nil ?_
      rintro w5 ⟨⟨_, hb5⟩, rfl⟩
      go_wp2
      go_ret
      exact ⟨ret_int HV.out, HBL.out.trans (hb5.mono HBL.out.size)⟩
theorem qAllow_no (h : QObj w B τ p S vl V) (hn : S.rs.length ≤ 1000) {id t a e : Int} (hk : knE (basE id t S.now) (knw S id) = e) (he : e ≠ 0) :
    Calls Tryd.prog 53 #[.pointer (some ⟨p, 0, none⟩), .int .i64 id, .int .i64 t, .int .i64 a] w (RetS (.int .i64 e) w) := by
  have HF := Lib.hid (qknown_no h hn hk he)
  have hnb : (e != 0) = true := by simp [he]
  clear h hk he
  go_enter Tryd.func53, Tryd.ntmps53
  go_wp2_with (go_at_call 75; refine HF.out.mono ?_; rintro e' w' ⟨rfl, rfl⟩)
  go_ret
  exact ⟨rfl, rfl⟩
theorem alE_any (S : PSt) (id t x y z : Int) (k : Int) (hk : k = 3 ∨ k = 4) : errD S ⟨k, id, t, x, y, z⟩ = if knE (basE id t S.now) (knw S id) = 0 then alI (thr S id) t x else knE (basE id t S.now) (knw S id) := by
  rcases hk with rfl | rfl <;> rfl
/-- Allow, in one word. -/
theorem qAllow_e (h : QObj w B τ p S vl V) (hsz : Sz S 300) (id t x : Int) {E : Int} (hE : E = if knE (basE id t S.now) (knw S id) = 0 then alI (thr S id) t x else knE (basE id t S.now) (knw S id)) :
    Calls Tryd.prog 53 #[.pointer (some ⟨p, 0, none⟩), .int .i64 id, .int .i64 t, .int .i64 x] w (RetB (.int .i64 E) w) := by
  by_cases hk : knE (basE id t S.now) (knw S id) = 0
  · rw [if_pos hk] at hE
    rw [hE]
    exact qAllow_ok h hsz hk
  · rw [if_neg hk] at hE
    have := qAllow_no h (Nat.le_trans hsz.1 (by omega)) (a := x) hE.symm (by rw [hE]; exact hk)
    exact this.mono fun _ _ ⟨h1, h2⟩ => ⟨h1, h2 ▸ Below.refl _ _⟩
theorem qAllow_any (h : QO w B τ p S) (hsz : Sz S 300) (id t x y z : Int) :
    Calls Tryd.prog 53 #[.pointer (some ⟨p, 0, none⟩), .int .i64 id, .int .i64 t, .int .i64 x] w (Lv (fun w τ S => QO w B τ p S) w τ (stpD S ⟨3, id, t, x, y, z⟩) (.int .i64 (errD S ⟨3, id, t, x, y, z⟩))) := by
  have HS1 := stp_read (S := S) (d := ⟨3, id, t, x, y, z⟩) (show (3 : Int) ≠ 0 by decide) (show (3 : Int) ≠ 1 by decide) (show (3 : Int) ≠ 2 by decide) (show (3 : Int) ≠ 4 by decide) (show (3 : Int) ≠ 5 by decide)
  have h' := h
  obtain ⟨vl, V, h⟩ := h
  exact (qAllow_e h hsz id t x (alE_any S id t x y z 3 (.inl rfl))).mono fun _ _ ⟨h1, h2⟩ => by rw [HS1]; exact Lv.same (h'.below h2) h1 h2
set_option linter.unusedSimpArgs false in
set_option maxHeartbeats 4000000 in
set_option maxRecDepth 100000 in
theorem qCharge_any (h : QO w B τ p S) (hB : B ≤ w.heap.size) (hsz : Sz S 300) (id t x y z : Int) :
    Calls Tryd.prog 54 #[.pointer (some ⟨p, 0, none⟩), .int .i64 id, .int .i64 t, .int .i64 x] w (Lv (fun w τ S => QO w B τ p S) w τ (stpD S ⟨4, id, t, x, y, z⟩) (.int .i64 (errD S ⟨4, id, t, x, y, z⟩))) := by
  have HPO := Lib.hid h
  obtain ⟨vl, V, h⟩ := h
  have hal := qAllow_e h hsz id t x (alE_any S id t x y z 4 (.inr rfl))
  by_cases hz : errD S ⟨4, id, t, x, y, z⟩ = 0
  · rw [hz] at hal
    have HAL := Lib.hid hal
    have hkn := err_known hz (show (4 : Int) ≠ 0 by decide)
    have HE := Lib.hid hz
    have HP := Lib.hid h
    have hf := fun y (hb : Below w.heap.size w y) => qfind_any (h.below hb) (Nat.le_trans hsz.1 (by omega)) id
    have hqf : qfR S id = (fnd S.rs id : Int) := by unfold qfR; rw [show knw S id = true from hkn]; rfl
    rw [hqf] at hf
    have HF := Lib.hid hf
    replace hkn : knw S id = true := hkn
    obtain ⟨K, hK⟩ : ∃ K, K = fnd S.rs id := ⟨_, rfl⟩
    rw [← hK] at HF
    have HKN := Lib.hid hkn
    have HKE := Lib.hid hK
    have hn := (hsz.thr id).2.2
    obtain ⟨i0, hi0, hz00, hz1, hz2⟩ := info_parts infoSp
    clear h hal hz hkn hK hf hqf hsz
    go_enter Tryd.func54, Tryd.ntmps54
    go_wp2_with (first
      | (go_at_call 53; refine HAL.out.mono ?_; rintro e w2 ⟨rfl, hb2⟩; have HB2 := Lib.hid hb2; have HP2 := Lib.hid (HP.out.below hb2); clear hb2)
      | (go_at_call 74; refine (HF.out _ HB2.out).mono ?_; rintro e w' ⟨rfl, rfl⟩))
    obtain ⟨l, cl, hvl, hll⟩ := HP2.out.form (Nat.lt_of_le_of_lt (Nat.zero_le _) (knw_iff.1 HKN.out))
    obtain ⟨v0, hv0⟩ : ∃ v0, v0 = V (fnd S.rs id) 2 := ⟨_, rfl⟩
    have HV0 := Lib.hid hv0
    have HVL := Lib.hid hvl
    have hqf := HP2.out.facts HKN.out (f := 2) (by omega) hvl hv0
    obtain ⟨N, hN⟩ : ∃ N, N = S.rs.length := ⟨_, rfl⟩
    rw [← HKE.out, hvl, ← hN] at hqf
    have hKN2 : K < N := by rw [HKE.out, hN]; exact knw_iff.1 HKN.out
    have hKN0 : (0 : Int) ≤ (K : Int) := by omega
    have hKN1 : (K : Int) < (N : Int) := by omega
    have HPF := Lib.hid hqf
    have r0 : w2.cell? ⟨l, K * 4 + 3, none⟩ = some v0 := hqf.r0
    have rf : w2.frozen? ⟨l, K * 4 + 3, none⟩ = false := hqf.rf
    have p0 := hqf.p0
    have hrl := hqf.rl
    have hpl2 := hqf.pl
    have hrow : w2.ownsRow B 26 2 v0 (thr S id).hi.length (flP (thr S id).hi) := by
      have := HP2.out.rw (fnd S.rs id) 2 (knw_iff.1 HKN.out) (by omega)
      rw [← hv0, rOf_thr] at this
      exact this
    have HRW := Lib.hid hrow
    obtain ⟨n, hnn⟩ : ∃ n, n = (thr S id).hi.length := ⟨_, rfl⟩
    rw [← hnn] at hn HRW
    have hzB : B ≤ w2.heap.size := Nat.le_trans hB HB2.out.size
    have hkb : (n + 1) * 16 ≤ 140737488355328 := by omega
    have hkm : n + 1 ≤ maxLen := by unfold maxLen; omega
    have HNN := Lib.hid hnn
    clear hrow hnn hv0 hqf hvl hN hll
    have HA := Lib.hid ((((Below.refl w2.heap.size w2).alloc (Nat.le_refl _) (.cells #[.int .i64 t, .int .i64 x] 26)).drew))
    refine wp_region_held_drew (S := fun w' => w'.cell? ⟨p, 0, none⟩ = some (.slice (some ⟨l, 0, none⟩) N cl)) (by kernel_rfl) ?_ (fun hHeld => ?_)
    · go_keep
    refine wpAnyH_take (i := 0) (oi := _) (v := ?_) rfl (by kernel_rfl) (by kernel_rfl) (by kernel_rfl) (fun _ _ _ h => h) (Or.inl ⟨by rfl, ?_⟩) (by assumption) ?_
    rotate_left
    · (intro w hSw; (try dsimp only at hSw); go_simp; (try with_reducible rfl))
    simp only [Act.put, List.setIfInBounds_toArray, List.set_cons_zero, List.set_cons_succ]
    refine wpAnyH_take (i := 1) (oi := _) (v := ?_) rfl (by kernel_rfl) (by kernel_rfl) (by kernel_rfl) (fun _ _ _ h => h) (Or.inl ⟨by rfl, ?_⟩) (by assumption) ?_
    rotate_left
    · (intro w hSw; (try dsimp only at hSw); go_simp; (try with_reducible rfl))
    simp only [Act.put, List.setIfInBounds_toArray, List.set_cons_zero, List.set_cons_succ]
    refine wpAnyH_take (i := 2) (oi := _) (v := ?_) rfl (by kernel_rfl) (by kernel_rfl) (by kernel_rfl) (fun _ _ _ h => h) (Or.inl ⟨by rfl, ?_⟩) (by assumption) ?_
    rotate_left
    · (intro w hSw; (try dsimp only at hSw); go_simp; (try with_reducible rfl))
    simp only [Act.put, List.setIfInBounds_toArray, List.set_cons_zero, List.set_cons_succ]
    refine wpAnyH_take (i := 3) (oi := _) (v := ?_) rfl (by kernel_rfl) (by kernel_rfl) (by kernel_rfl) (fun _ _ _ h => h) (Or.inl ⟨by rfl, ?_⟩) (by assumption) ?_
    rotate_left
    · (intro w hSw; (try dsimp only at hSw); go_simp; (try with_reducible rfl))
    simp only [Act.put, List.setIfInBounds_toArray, List.set_cons_zero, List.set_cons_succ]
    refine wpAnyH_take (i := 4) (oi := _) (v := ?_) rfl (by kernel_rfl) (by kernel_rfl) (by kernel_rfl) (fun _ _ _ h => h) (Or.inl ⟨by rfl, ?_⟩) (by assumption) ?_
    rotate_left
    · (intro w hSw; (try dsimp only at hSw); go_simp; (try with_reducible rfl))
    simp only [Act.put, List.setIfInBounds_toArray, List.set_cons_zero, List.set_cons_succ]
    refine wpAnyH_take (i := 5) (oi := _) (v := ?_) rfl (by kernel_rfl) (by kernel_rfl) (by kernel_rfl) (fun _ _ _ h => h) (Or.inl ⟨by rfl, ?_⟩) (by assumption) ?_
    rotate_left
    · (intro w hSw; (try dsimp only at hSw); go_simp; (try with_reducible rfl))
    simp only [Act.put, List.setIfInBounds_toArray, List.set_cons_zero, List.set_cons_succ]
    refine wpAnyH_take (i := 6) (oi := _) (v := ?_) rfl (by kernel_rfl) (by kernel_rfl) (by kernel_rfl) (fun _ _ _ h => h) (Or.inl ⟨by rfl, ?_⟩) (by assumption) ?_
    rotate_left
    · (intro w hSw; (try dsimp only at hSw); go_simp; (try with_reducible rfl))
    simp only [Act.put, List.setIfInBounds_toArray, List.set_cons_zero, List.set_cons_succ]
    refine wpAnyH_take (i := 7) (oi := _) (v := ?_) rfl (by kernel_rfl) (by kernel_rfl) (by kernel_rfl) (fun _ _ _ h => h) (Or.inl ⟨by rfl, ?_⟩) (by assumption) ?_
    rotate_left
    · (intro w hSw; (try dsimp only at hSw); go_simp; (try with_reducible rfl))
    simp only [Act.put, List.setIfInBounds_toArray, List.set_cons_zero, List.set_cons_succ]
    refine wpAnyH_take (i := 8) (oi := _) (v := ?_) rfl (by kernel_rfl) (by kernel_rfl) (by kernel_rfl) (fun _ _ _ h => h) (Or.inl ⟨by rfl, ?_⟩) (by assumption) ?_
    rotate_left
    · (intro w hSw; (try dsimp only at hSw); go_simp; (try with_reducible rfl))
    simp only [Act.put, List.setIfInBounds_toArray, List.set_cons_zero, List.set_cons_succ]
    refine wpAnyH_take (i := 9) (oi := _) (v := ?_) rfl (by kernel_rfl) (by kernel_rfl) (by kernel_rfl) (fun _ _ _ h => h) (Or.inl ⟨by rfl, ?_⟩) (by assumption) ?_
    rotate_left
    · (intro w hSw; (try dsimp only at hSw); go_simp; (try with_reducible rfl))
    simp only [Act.put, List.setIfInBounds_toArray, List.set_cons_zero, List.set_cons_succ]
    refine wpAnyH_take (i := 10) (oi := _) (v := ?_) rfl (by kernel_rfl) (by kernel_rfl) (by kernel_rfl) (fun _ _ _ h => h) (Or.inl ⟨by rfl, ?_⟩) (by assumption) ?_
    rotate_left
    · (intro w hSw; (try dsimp only at hSw); go_simp; (try with_reducible rfl))
    simp only [Act.put, List.setIfInBounds_toArray, List.set_cons_zero, List.set_cons_succ]
    refine wpAnyH_take (i := 11) (oi := _) (v := ?_) rfl (by kernel_rfl) (by kernel_rfl) (by kernel_rfl) (fun _ _ _ h => h) (Or.inl ⟨by rfl, ?_⟩) (by assumption) ?_
    rotate_left
    · (intro w hSw; (try dsimp only at hSw); go_simp; (try with_reducible rfl))
    simp only [Act.put, List.setIfInBounds_toArray, List.set_cons_zero, List.set_cons_succ]
    refine wpAnyH_take (i := 13) (oi := _) (v := ?_) rfl (by kernel_rfl) (by kernel_rfl) (by kernel_rfl) (fun _ _ _ h => h) (Or.inl ⟨by rfl, ?_⟩) (by assumption) ?_
    rotate_left
    · (intro w hSw; (try dsimp only at hSw); go_simp; (try with_reducible rfl))
    simp only [Act.put, List.setIfInBounds_toArray, List.set_cons_zero, List.set_cons_succ]
    refine wpAnyH_take (i := 14) (oi := _) (v := ?_) rfl (by kernel_rfl) (by kernel_rfl) (by kernel_rfl) (fun _ _ _ h => h) (Or.inl ⟨by rfl, ?_⟩) (by assumption) ?_
    rotate_left
    · (intro w hSw; (try dsimp only at hSw); go_simp; (try with_reducible rfl))
    simp only [Act.put, List.setIfInBounds_toArray, List.set_cons_zero, List.set_cons_succ]
    refine wpAnyH_take (i := 15) (oi := _) (v := ?_) rfl (by kernel_rfl) (by kernel_rfl) (by kernel_rfl) (fun _ _ _ h => h) (Or.inl ⟨by rfl, ?_⟩) (by assumption) ?_
    rotate_left
    · (intro w hSw; (try dsimp only at hSw); go_simp; (try with_reducible rfl))
    simp only [Act.put, List.setIfInBounds_toArray, List.set_cons_zero, List.set_cons_succ]
    refine wpAnyH_ready (rs := [12, 16]) (by kernel_rfl) (by simp) ?_
    refine AllReadyH.cons (o := _) rfl (fun K2 hK => ?_) (AllReadyH.cons (o := _) rfl (fun K2 hK => ?_) AllReadyH.nil)
    · go_simp
      refine hK.out _ _ ?_ (fun hHeld => ?_)
      · go_keep
      clear hK K2
      try simp only [Act.put, List.setIfInBounds_toArray, List.set_cons_zero, List.set_cons_succ]
      refine wpAnyH_ready (rs := [16]) (by kernel_rfl) (by simp) ?_
      refine AllReadyH.cons (o := _) rfl (fun K2 hK => ?_) AllReadyH.nil
      go_simp
      refine hK.out _ _ ?_ (fun hHeld => ?_)
      · go_keep
      clear hK K2
      try simp only [Act.put, List.setIfInBounds_toArray, List.set_cons_zero, List.set_cons_succ]
      refine wpAnyH_ready (rs := [17]) (by kernel_rfl) (by simp) ?_
      refine AllReadyH.cons (o := _) rfl (fun K2 hK => ?_) AllReadyH.nil
      ((refine step_append_lies _ (by rfl) _ _ _ (by rfl) B 26 i0 _ 2 16 Tryd.underlying22 hi0 hz00 hz1 hz2 rfl (by omega) _ n (flP (thr S id).hi) (by rfl) ((HRW.out.alloc _).drew) ⟨w2.heap.size, 0, none⟩ 1 1 [.int .i64 t, .int .i64 x] (by rfl) (by rfl) (World.news_of_block (cs := #[.int .i64 t, .int .i64 x]) (t := 26) (fr := (0, 0)) (heap_alloc_new w2 _)) (by simp [Value.oneCell']) (by omega) hkm hkb (by simp; omega) (w2.heap.size + 1) (by simp) ?_; intro gg cap w1 hown1 hgrow hat hlt; have HQ := Lib.hid ((HPF.out.fr HA.out).grow hgrow); have q1 := HQ.out.r0; have q2 := HQ.out.rf; have q3 := HQ.out.p1; have q4 := HQ.out.pf; have q5 := HQ.out.rp; have q6 := HQ.out.p0; have HG1 := Lib.hid hgrow; have HO1 := Lib.hid hown1; have HA1 := Lib.hid hat; have HL1 := Lib.hid hlt; clear hown1 hgrow hat hlt))
      refine hK.out _ _ ?_ (fun hHeld => ?_)
      · exact q6
      clear hK K2
      try simp only [Act.put, List.setIfInBounds_toArray, List.set_cons_zero, List.set_cons_succ]
      refine wpAnyH_take (i := 18) (oi := _) (v := ?_) rfl (by kernel_rfl) (by kernel_rfl) (by kernel_rfl) (fun _ _ _ h => h) (Or.inl ⟨by rfl, ?_⟩) (by assumption) ?_
      rotate_left
      · (intro w hSw; (try dsimp only at hSw); go_simp; (try with_reducible rfl))
      simp only [Act.put, List.setIfInBounds_toArray, List.set_cons_zero, List.set_cons_succ]
      refine wpAnyH_take (i := 19) (oi := _) (v := ?_) rfl (by kernel_rfl) (by kernel_rfl) (by kernel_rfl) (fun _ _ _ h => h) (Or.inl ⟨by rfl, ?_⟩) (by assumption) ?_
      rotate_left
      · (intro w hSw; (try dsimp only at hSw); go_simp; (try with_reducible rfl))
      simp only [Act.put, List.setIfInBounds_toArray, List.set_cons_zero, List.set_cons_succ]
      refine wpAnyH_ready (rs := [20]) (by kernel_rfl) (by simp) ?_
      refine AllReadyH.cons (o := _) rfl (fun K2 hK => ?_) AllReadyH.nil
      go_simp
      refine hK.out _ _ ?_ (fun hHeld => ?_)
      · go_keep
      clear hK K2
      try simp only [Act.put, List.setIfInBounds_toArray, List.set_cons_zero, List.set_cons_succ]
      refine wpAnyH_done (by kernel_rfl) ?_ _
      go_wp2
      go_ret
      rw [stp4 HE.out]
      rw [HNN.out] at HO1 ⊢
      exact ⟨ret_int HE.out.symm, HP2.out.done HB2.out HKN.out (by omega) HVL.out (by rw [HKE.out]) HV0.out HA.out (by simp) HG1.out HA1.out HL1.out (recF_hi (c := (t, x)) HO1.out) keep_hi⟩
    · go_simp
      refine hK.out _ _ ?_ (fun hHeld => ?_)
      · go_keep
      clear hK K2
      try simp only [Act.put, List.setIfInBounds_toArray, List.set_cons_zero, List.set_cons_succ]
      refine wpAnyH_ready (rs := [12]) (by kernel_rfl) (by simp) ?_
      refine AllReadyH.cons (o := _) rfl (fun K2 hK => ?_) AllReadyH.nil
      go_simp
      refine hK.out _ _ ?_ (fun hHeld => ?_)
      · go_keep
      clear hK K2
      try simp only [Act.put, List.setIfInBounds_toArray, List.set_cons_zero, List.set_cons_succ]
      refine wpAnyH_ready (rs := [17]) (by kernel_rfl) (by simp) ?_
      refine AllReadyH.cons (o := _) rfl (fun K2 hK => ?_) AllReadyH.nil
      ((refine step_append_lies _ (by rfl) _ _ _ (by rfl) B 26 i0 _ 2 16 Tryd.underlying22 hi0 hz00 hz1 hz2 rfl (by omega) _ n (flP (thr S id).hi) (by rfl) ((HRW.out.alloc _).drew) ⟨w2.heap.size, 0, none⟩ 1 1 [.int .i64 t, .int .i64 x] (by rfl) (by rfl) (World.news_of_block (cs := #[.int .i64 t, .int .i64 x]) (t := 26) (fr := (0, 0)) (heap_alloc_new w2 _)) (by simp [Value.oneCell']) (by omega) hkm hkb (by simp; omega) (w2.heap.size + 1) (by simp) ?_; intro gg cap w1 hown1 hgrow hat hlt; have HQ := Lib.hid ((HPF.out.fr HA.out).grow hgrow); have q1 := HQ.out.r0; have q2 := HQ.out.rf; have q3 := HQ.out.p1; have q4 := HQ.out.pf; have q5 := HQ.out.rp; have q6 := HQ.out.p0; have HG1 := Lib.hid hgrow; have HO1 := Lib.hid hown1; have HA1 := Lib.hid hat; have HL1 := Lib.hid hlt; clear hown1 hgrow hat hlt))
      refine hK.out _ _ ?_ (fun hHeld => ?_)
      · exact q6
      clear hK K2
      try simp only [Act.put, List.setIfInBounds_toArray, List.set_cons_zero, List.set_cons_succ]
      refine wpAnyH_take (i := 18) (oi := _) (v := ?_) rfl (by kernel_rfl) (by kernel_rfl) (by kernel_rfl) (fun _ _ _ h => h) (Or.inl ⟨by rfl, ?_⟩) (by assumption) ?_
      rotate_left
      · (intro w hSw; (try dsimp only at hSw); go_simp; (try with_reducible rfl))
      simp only [Act.put, List.setIfInBounds_toArray, List.set_cons_zero, List.set_cons_succ]
      refine wpAnyH_take (i := 19) (oi := _) (v := ?_) rfl (by kernel_rfl) (by kernel_rfl) (by kernel_rfl) (fun _ _ _ h => h) (Or.inl ⟨by rfl, ?_⟩) (by assumption) ?_
      rotate_left
      · (intro w hSw; (try dsimp only at hSw); go_simp; (try with_reducible rfl))
      simp only [Act.put, List.setIfInBounds_toArray, List.set_cons_zero, List.set_cons_succ]
      refine wpAnyH_ready (rs := [20]) (by kernel_rfl) (by simp) ?_
      refine AllReadyH.cons (o := _) rfl (fun K2 hK => ?_) AllReadyH.nil
      go_simp
      refine hK.out _ _ ?_ (fun hHeld => ?_)
      · go_keep
      clear hK K2
      try simp only [Act.put, List.setIfInBounds_toArray, List.set_cons_zero, List.set_cons_succ]
      refine wpAnyH_done (by kernel_rfl) ?_ _
      go_wp2
      go_ret
      rw [stp4 HE.out]
      rw [HNN.out] at HO1 ⊢
      exact ⟨ret_int HE.out.symm, HP2.out.done HB2.out HKN.out (by omega) HVL.out (by rw [HKE.out]) HV0.out HA.out (by simp) HG1.out HA1.out HL1.out (recF_hi (c := (t, x)) HO1.out) keep_hi⟩
  · have HS1 := Lib.hid (stp_err (S := S) (d := ⟨4, id, t, x, y, z⟩) hz)
    obtain ⟨e, he⟩ : ∃ e, e = errD S ⟨4, id, t, x, y, z⟩ := ⟨_, rfl⟩
    have hnb : (e != 0) = true := by rw [he]; simp [hz]
    rw [← he] at hal ⊢
    have HAL := Lib.hid hal
    clear h hal hz he hsz
    go_enter Tryd.func54, Tryd.ntmps54
    go_wp2_with (go_at_call 53; refine HAL.out.mono ?_; rintro e9 w2 ⟨rfl, hb2⟩; have HB2 := Lib.hid hb2; clear hb2)
    go_ret
    rw [HS1.out]
    exact Lv.same (HPO.out.below HB2.out) rfl HB2.out
end
end Go.Proofs.YtainelkenkgppaaDoor
/- The reference's object: New, Register, Spent, Count. -/
namespace Go.Proofs.YtainelkenkgppaaDoor
open Go.ChangeShapes Go.WideShapes Go.ChangeAt Go.RowKit Go.Lott
open Go.Sort Go.Lott.Stb Go.Lott.Srt Go.Lott.Lm
theorem infoO : (Tryd.prog.info? 99).map (fun i => (i.zero, i.size, i.bytes)) = some (some (.agg #[.int .i64 0, .slice none 0 0, .slice none 0 0, .slice none 0 0]), 4, 80) := by kernel_rfl
theorem qo_new (w : World) : QO (w.alloc (.cells #[.slice none 0 0, .int .i64 0] 82)) w.heap.size (tg (fun _ => none) w.heap.size (0, 0)) w.heap.size ps0 := by
  refine ⟨.slice none 0 0, fun _ _ => .slice none 0 0, ?_, tg_same _ _ _, Cel.new _ _ _, World.ownsRow_nil _ _ _ _, (fun g hg => by cases hg), (fun k f hk => by simp [ps0] at hk), (fun k f g hk => by simp [ps0] at hk)⟩
  intro b hb
  have hs : (w.alloc (.cells #[.slice none 0 0, .int .i64 0] 82)).heap.size = w.heap.size + 1 := by simp
  rw [hs]
  by_cases c : b = w.heap.size
  · omega
  · rw [tg_ne _ c] at hb; exact absurd rfl hb
theorem qNew_any (w : World) : Calls Tryd.prog 20 #[] w (NewP QO w) := by
  go_enter Tryd.func20, Tryd.ntmps20
  go_wp2
  go_ret
  exact ⟨_, _, rfl, qo_new w, (Below.refl _ _).alloc (Nat.le_refl _) _, Nat.le_refl _⟩
section
variable {w : World} {B p : Nat} {τ : Rl} {S : PSt}
theorem qCount_any (h : QO w B τ p S) : Calls Tryd.prog 24 #[.pointer (some ⟨p, 0, none⟩)] w (RetS (.int .i64 (S.rs.length : Int)) w) := by
  obtain ⟨vl, V, h⟩ := h
  obtain ⟨a, c, hv⟩ := owns_slice h.rl
  have c0 := h.cp.cell 0
  rw [hv] at c0
  simp at c0
  clear h hv
  go_enter Tryd.func24, Tryd.ntmps24
  go_wp2
  go_ret
  exact ⟨rfl, rfl⟩
set_option maxHeartbeats 4000000 in
set_option maxRecDepth 100000 in
theorem qSpent_any (h : QO w B τ p S) (hsz : Sz S 300) (id t : Int) :
    Calls Tryd.prog 56 #[.pointer (some ⟨p, 0, none⟩), .int .i64 id, .int .i64 t] w (RetB (spT (basE id t 0) (knw S id) (thr S id) t) w) := by
  obtain ⟨vl, V, h⟩ := h
  obtain ⟨W0, hW0⟩ : ∃ W0, W0 = w.alloc (.cells #[.int .i64 0, .int .i64 0, .int .i64 0] 28) := ⟨_, rfl⟩
  have hb0 : Below w.heap.size w W0 := by rw [hW0]; exact (Below.refl _ _).alloc (Nat.le_refl _) _
  have hz0 : w.heap.size < W0.heap.size := by rw [hW0]; simp
  have hbox : Cel W0 w.heap.size #[.int .i64 0, .int .i64 0, .int .i64 0] 28 := by rw [hW0]; exact Cel.new _ _ _
  have h0 := h.below hb0
  have l0 := hbox.cell 0
  have l1 := hbox.cell 1
  have l2 := hbox.cell 2
  have f0 := hbox.free 0
  have f1 := hbox.free 1
  have f2 := hbox.free 2
  simp at l0 l1 l2
  have HW := Lib.hid hW0
  have HB0 := Lib.hid hb0
  have HB := Lib.hid (fun b : Int => fun hb : basE id t 0 = b => hb ▸ qfirst_any id t 0 W0)
  have hf := qfind_any h0 (Nat.le_trans hsz.1 (by omega)) id
  rcases basE_two id t 0 with hb | hb
  · have HBA := Lib.hid (HB.out 0 hb)
    cases hk : knw S id with
    | true =>
      have hkl := knw_iff.1 hk
      have hqf : qfR S id = (fnd S.rs id : Int) := by unfold qfR; rw [hk]; rfl
      rw [hqf] at hf
      obtain ⟨l, cl, hvl, hll⟩ := h0.form (Nat.lt_of_le_of_lt (Nat.zero_le _) hkl)
      have hr2 := h0.rw _ 2 hkl (by omega)
      rw [rOf_thr] at hr2
      obtain ⟨a2, c2, e2, w2⟩ := hr2.rows2
      obtain ⟨_, _, _, r2⟩ := h0.cells hvl hkl
      have c0 := h0.cp.cell 0
      rw [hvl] at c0
      simp at c0
      rw [e2] at r2
      have hsp := rSpent_t t a2 (thr S id).hi.length c2 (zP (thr S id).hi) W0 (hsz.thr id).2.2 w2
      have HV := Lib.hid (spT_ok (t := t) (r := thr S id) (show knE (basE id t 0) true = 0 by rw [hb]; rfl))
      obtain ⟨s1, hs1⟩ : ∃ s1, s1 = spN (zP (thr S id).hi) (thr S id).hi.length t 1 := ⟨_, rfl⟩
      obtain ⟨s2, hs2⟩ : ∃ s2, s2 = spN (zP (thr S id).hi) (thr S id).hi.length t 2 := ⟨_, rfl⟩
      obtain ⟨s3, hs3⟩ : ∃ s3, s3 = spN (zP (thr S id).hi) (thr S id).hi.length t 3 := ⟨_, rfl⟩
      obtain ⟨n2, hn2⟩ : ∃ n2, n2 = (thr S id).hi.length := ⟨_, rfl⟩
      rw [← hs1, ← hs2, ← hs3] at hsp HV
      rw [← hn2] at hsp r2
      obtain ⟨K, hK⟩ : ∃ K, K = fnd S.rs id := ⟨_, rfl⟩
      obtain ⟨N, hN⟩ : ∃ N, N = S.rs.length := ⟨_, rfl⟩
      rw [← hK] at hf r2 hkl
      rw [← hN] at c0 hkl
      have r2' : W0.cell? ⟨l, K * 4 + 3, none⟩ = some (.slice a2 n2 c2) := r2
      have hK0 : (0 : Int) ≤ (K : Int) := by omega
      have hK1 : (K : Int) < (N : Int) := by omega
      have HF := Lib.hid hf
      have HSP := Lib.hid hsp
      have HBX := Lib.hid hbox
      clear h h0 hsz hb hk hW0 hb0 hr2 e2 w2 hsp hs1 hs2 hs3 hn2 hbox HB hf hqf hvl r2 hK hN
      go_enter Tryd.func56, Tryd.ntmps56
      go_wp2_with fail
      rw [← HW.out]
      go_wp2_with (first
        | (go_at_call 72; refine HBA.out.mono ?_; rintro e w' ⟨rfl, rfl⟩)
        | (go_at_call 74; refine HF.out.mono ?_; rintro e w' ⟨rfl, rfl⟩)
        | (go_at_call 41; (with_reducible refine HSP.out.mono ?_); rintro e w3 ⟨rfl, hb3⟩; have HB3 := Lib.hid hb3; have C3 := HBX.out.below hb3 HBX.out.lt; have m0 := C3.cell 0; have m1 := C3.cell 1; have m2 := C3.cell 2; have g0 := C3.free 0; have g1 := C3.free 1; have g2 := C3.free 2; simp at m0 m1 m2; clear hb3 C3))
      refine bodyPost_ret (v := .tuple #[.agg #[.int .i64 s1, .int .i64 s2, .int .i64 s3], .int .i64 0]) (by simp [results, Tryd.results56, go_sem, m0, m1, m2]) rfl ⟨congrArg _ HV.out, ?_⟩
      have hx := HB0.out.trans (HB3.out.mono HB0.out.size)
      exact ((hx.setCell (Nat.le_refl _) _).setCell (Nat.le_refl _) _).setCell (Nat.le_refl _) _
    | false =>
      have hqf : qfR S id = -1 := by unfold qfR; rw [hk]; rfl
      rw [hqf] at hf
      have HF := Lib.hid hf
      have HV := Lib.hid (spT_no (t := t) (r := thr S id) (show knE (basE id t 0) false = 5 by rw [hb]; rfl) (by decide))
      clear h h0 hsz hb hk hW0 hb0 hbox HB hf hqf
      go_enter Tryd.func56, Tryd.ntmps56
      go_wp2_with fail
      rw [← HW.out]
      go_wp2_with (first
        | (go_at_call 72; refine HBA.out.mono ?_; rintro e w' ⟨rfl, rfl⟩)
        | (go_at_call 74; refine HF.out.mono ?_; rintro e w' ⟨rfl, rfl⟩))
      refine bodyPost_ret (v := .tuple #[.agg #[.int .i64 0, .int .i64 0, .int .i64 0], .int .i64 5]) (by simp [results, Tryd.results56, go_sem, l0, l1, l2]) rfl ⟨congrArg _ HV.out, ?_⟩
      exact ((HB0.out.setCell (Nat.le_refl _) _).setCell (Nat.le_refl _) _).setCell (Nat.le_refl _) _
  · have HBA := Lib.hid (HB.out 2 hb)
    have HV := Lib.hid (spT_no (t := t) (r := thr S id) (k := knw S id) (show knE (basE id t 0) (knw S id) = 2 by rw [hb]; rfl) (by decide))
    clear h h0 hsz hb hW0 hb0 hbox HB hf
    go_enter Tryd.func56, Tryd.ntmps56
    go_wp2_with fail
    rw [← HW.out]
    go_wp2_with (go_at_call 72; refine HBA.out.mono ?_; rintro e w' ⟨rfl, rfl⟩)
    refine bodyPost_ret (v := .tuple #[.agg #[.int .i64 0, .int .i64 0, .int .i64 0], .int .i64 2]) (by simp [results, Tryd.results56, go_sem, l0, l1, l2]) rfl ⟨congrArg _ HV.out, ?_⟩
    exact ((HB0.out.setCell (Nat.le_refl _) _).setCell (Nat.le_refl _) _).setCell (Nat.le_refl _) _
set_option maxHeartbeats 4000000 in
set_option maxRecDepth 100000 in
theorem qRegister_any (h : QO w B τ p S) (hB : B ≤ w.heap.size) (hsz : S.rs.length ≤ 300) (id t x y z : Int) :
    Calls Tryd.prog 50 #[.pointer (some ⟨p, 0, none⟩), .int .i64 id, .int .i64 x, .int .i64 t] w (Lv (fun w τ S => QO w B τ p S) w τ (stpD S ⟨0, id, t, x, y, z⟩) (.int .i64 (errD S ⟨0, id, t, x, y, z⟩))) := by
  have HPO := Lib.hid h
  obtain ⟨vl, V, h⟩ := h
  have c1 := h.cp.cell 1
  simp at c1
  have hpl := h.cp.lt
  rcases basE_two id t S.now with hb | hb
  · have hbi := basE_iff.1 hb
    have td : t.tdiv 1440 = t / 1440 := Int.tdiv_eq_ediv_of_nonneg (by omega)
    have tw : wrap64 (t / 1440) = t / 1440 := IntWalk.wrap64_in _ (by omega)
    have HBA := Lib.hid (hb ▸ qfirst_any id t S.now w)
    have hage := rAge_any x (t / 1440) w trivial
    have hf := fun y (hb : Below w.heap.size w y) => qfind_any (h.below hb) (Nat.le_trans hsz (by omega)) id
    rcases ageE_two x (t / 1440) with ha | ha
    · rw [ha] at hage
      obtain ⟨A, hA⟩ : ∃ A, A = ageN x (t / 1440) := ⟨_, rfl⟩
      rw [← hA] at hage
      have HAG := Lib.hid hage
      cases hk : knw S id with
      | true =>
        have hqf : qfR S id = (fnd S.rs id : Int) := by unfold qfR; rw [hk]; rfl
        rw [hqf] at hf
        have HF := Lib.hid hf
        have h0 : (0 : Int) ≤ (fnd S.rs id : Int) := by omega
        have HE := Lib.hid (show errD S ⟨0, id, t, x, y, z⟩ = 6 by rw [e0_eq]; unfold regE; rw [if_pos hb, if_pos ha, hk]; rfl)
        have HS1 := Lib.hid (stp_err (S := S) (d := ⟨0, id, t, x, y, z⟩) (by rw [HE.out]; decide))
        clear hb hbi hage ha hk h hA hf hqf
        go_enter Tryd.func50, Tryd.ntmps50
        go_wp2_with (first
          | (go_at_call 72; refine HBA.out.mono ?_; rintro e w' ⟨rfl, rfl⟩)
          | (go_at_call 73; (with_reducible refine HAG.out.mono ?_); rintro e w2 ⟨rfl, hb2⟩; have HB2 := Lib.hid hb2; clear hb2)
          | (go_at_call 74; (with_reducible refine (HF.out _ HB2.out).mono ?_); rintro e w' ⟨rfl, rfl⟩))
        go_ret
        rw [HS1.out, HE.out]
        exact Lv.same (HPO.out.below HB2.out) rfl HB2.out
      | false =>
        have hqf : qfR S id = -1 := by unfold qfR; rw [hk]; rfl
        rw [hqf] at hf
        have HF := Lib.hid hf
        by_cases hlt : A < 18
        · have HE := Lib.hid (show errD S ⟨0, id, t, x, y, z⟩ = 21 by rw [e0_eq]; unfold regE; rw [if_pos hb, if_pos ha, hk, if_neg (by decide), if_pos (by rw [← hA]; exact hlt)])
          have HS1 := Lib.hid (stp_err (S := S) (d := ⟨0, id, t, x, y, z⟩) (by rw [HE.out]; decide))
          clear hb hbi hage ha hk h hA hf hqf
          go_enter Tryd.func50, Tryd.ntmps50
          go_wp2_with (first
            | (go_at_call 72; refine HBA.out.mono ?_; rintro e w' ⟨rfl, rfl⟩)
            | (go_at_call 73; (with_reducible refine HAG.out.mono ?_); rintro e w2 ⟨rfl, hb2⟩; have HB2 := Lib.hid hb2; clear hb2)
            | (go_at_call 74; (with_reducible refine (HF.out _ HB2.out).mono ?_); rintro e w' ⟨rfl, rfl⟩))
          go_ret
          rw [HS1.out, HE.out]
          exact Lv.same (HPO.out.below HB2.out) rfl HB2.out
        · have HE := Lib.hid (show errD S ⟨0, id, t, x, y, z⟩ = 0 by rw [e0_eq]; unfold regE; rw [if_pos hb, if_pos ha, hk, if_neg (by decide), if_neg (by rw [← hA]; exact hlt)])
          have hge : 18 ≤ A := by omega
          have HP := Lib.hid h
          obtain ⟨i0, hi0, hz00, hz1, hz2⟩ := info_parts infoO
          clear hb hbi hage ha hk h hA hf hqf hlt
          go_enter Tryd.func50, Tryd.ntmps50
          go_wp2_with (first
            | (go_at_call 72; refine HBA.out.mono ?_; rintro e w' ⟨rfl, rfl⟩)
            | (go_at_call 73
               with_reducible refine HAG.out.mono ?_
               rintro e w2 ⟨rfl, hb2⟩
               have HB2 := Lib.hid hb2
               clear hb2
               have hP2 := HP.out.below HB2.out
               have HP2 := Lib.hid hP2
               have p0 : w2.cell? ⟨p, 0, none⟩ = some vl := hP2.cp.cell 0
               have p0f := hP2.cp.free 0
               have p1 : w2.cell? ⟨p, 1, none⟩ = some (.int .i64 S.now) := hP2.cp.cell 1
               have p1f := hP2.cp.free 1
               have hp2 := hP2.cp.lt
               have HRW := Lib.hid hP2.rl
               have HNP := Lib.hid (show some p ≠ vl.ownBlock from fun c => by have h1 := hP2.tl p c.symm; rw [hP2.tp] at h1; simp at h1)
               obtain ⟨n, hnn⟩ : ∃ n, n = S.rs.length := ⟨_, rfl⟩
               rw [← hnn] at hsz HRW
               have HNN := Lib.hid hnn
               have hzB : B ≤ w2.heap.size := Nat.le_trans hB HB2.out.size
               have hkb : (n + 1) * 80 ≤ 140737488355328 := by omega
               have hkm : n + 1 ≤ maxLen := by unfold maxLen; omega
               have hA := ((Below.refl w2.heap.size w2).alloc (Nat.le_refl _) (.cells #[.int .i64 id, .slice none 0 0, .slice none 0 0, .slice none 0 0] 99))
               have HA := Lib.hid hA
               have HC0 := Lib.hid ((hA.cell (p := ⟨p, 0, none⟩) hp2).trans p0)
               have HC1 := Lib.hid ((hA.cell (p := ⟨p, 1, none⟩) hp2).trans p1)
               have HF0 := Lib.hid ((hA.frozen (p := ⟨p, 0, none⟩) hp2).trans p0f)
               have HF1 := Lib.hid ((hA.frozen (p := ⟨p, 1, none⟩) hp2).trans p1f)
               clear hP2 hnn hA)
            | (go_at_call 74; (with_reducible refine (HF.out _ HB2.out).mono ?_); rintro e w' ⟨rfl, rfl⟩)
            | (at_builtin; refine wpList_append_lies _ rfl _ _ 80 rfl B 99 i0 _ 4 80 Tryd.underlying80 hi0 hz00 hz1 hz2 rfl (by decide) vl n (flO S V n) (by rfl) (HRW.out.alloc _) ⟨w2.heap.size, 0, none⟩ 1 1 [.int .i64 id, .slice none 0 0, .slice none 0 0, .slice none 0 0] (by rfl) (by rfl) (World.news_of_block (cs := #[.int .i64 id, .slice none 0 0, .slice none 0 0, .slice none 0 0]) (t := 99) (fr := (0, 0)) (heap_alloc_new w2 _)) (by simp [Value.oneCell']) (by omega) hkm hkb (by simp; omega) (w2.heap.size + 1) (by simp) ?_; intro gg cap w1 hown1 hgrow hat hlt1; have q1 : w1.cell? ⟨p, 0, none⟩ = some vl := (hgrow.cell_far ⟨p, 0, none⟩ (by simp; omega) HNP.out).trans HC0.out; have q2 : w1.frozen? ⟨p, 0, none⟩ = false := (hgrow.frozen_far ⟨p, 0, none⟩ (by simp; omega) HNP.out).trans HF0.out; have q3 : w1.cell? ⟨p, 1, none⟩ = some (.int .i64 S.now) := (hgrow.cell_far ⟨p, 1, none⟩ (by simp; omega) HNP.out).trans HC1.out; have q4 : w1.frozen? ⟨p, 1, none⟩ = false := (hgrow.frozen_far ⟨p, 1, none⟩ (by simp; omega) HNP.out).trans HF1.out; have HG1 := Lib.hid hgrow; have HO1 := Lib.hid hown1; have HA1 := Lib.hid hat; have HL1 := Lib.hid hlt1; clear hown1 hgrow hat hlt1))
          go_ret
          rw [stp0 HE.out]
          rw [HNN.out] at HO1 ⊢
          exact ⟨ret_int HE.out.symm, HP2.out.regd HB2.out HA.out (by simp) HG1.out HA1.out HL1.out HO1.out⟩
    · rw [ha] at hage
      have HAG := Lib.hid hage
      have HE := Lib.hid (show errD S ⟨0, id, t, x, y, z⟩ = 2 by rw [e0_eq]; unfold regE; rw [if_pos hb, if_neg (by omega)])
      have HS1 := Lib.hid (stp_err (S := S) (d := ⟨0, id, t, x, y, z⟩) (by rw [HE.out]; decide))
      clear hb hbi hage ha h hf
      go_enter Tryd.func50, Tryd.ntmps50
      go_wp2_with (first
        | (go_at_call 72; refine HBA.out.mono ?_; rintro e w' ⟨rfl, rfl⟩)
        | (go_at_call 73; (with_reducible refine HAG.out.mono ?_); rintro e w2 ⟨rfl, hb2⟩; have HB2 := Lib.hid hb2; clear hb2))
      go_ret
      rw [HS1.out, HE.out]
      exact Lv.same (HPO.out.below HB2.out) rfl HB2.out
  · have HBA := Lib.hid (hb ▸ qfirst_any id t S.now w)
    have HE := Lib.hid (show errD S ⟨0, id, t, x, y, z⟩ = 2 by rw [e0_eq]; unfold regE; rw [if_neg (by omega)])
    have HS1 := Lib.hid (stp_err (S := S) (d := ⟨0, id, t, x, y, z⟩) (by rw [HE.out]; decide))
    clear hb h
    go_enter Tryd.func50, Tryd.ntmps50
    go_wp2_with (go_at_call 72; refine HBA.out.mono ?_; rintro e w' ⟨rfl, rfl⟩)
    go_ret
    rw [HS1.out, HE.out]
    exact Lv.same HPO.out rfl (Below.refl _ _)
end
end Go.Proofs.YtainelkenkgppaaDoor
/- A call of the reference's object. -/
namespace Go.Proofs.YtainelkenkgppaaDoor
open Go.ChangeShapes Go.WideShapes Go.ChangeAt Go.RowKit Go.Lott
open Go.Sort Go.Lott.Stb Go.Lott.Srt Go.Lott.Lm
theorem QO.box {w : World} {B p c i : Nat} {τ : Rl} {S : PSt} (h : QO w B τ p S) (hc : τ c = none) (u : Value) : QO (w.setCell ⟨c, i, none⟩ u) B τ p S :=
  h.fr (σ := tg (fun _ => none) c (0, 0)) (Fr.setCell (Fr.refl _ _) (.inl (by rw [tg_same]; simp)) _) (fun b hb => tg_ne _ (fun e => by rw [e] at hb; exact hb hc))
theorem qo_box (B p c : Nat) : ∀ (w : World) (τ : Rl) (S : PSt) (i : Nat) (u : Value), QO w B τ p S → τ c = none → QO (w.setCell ⟨c, i, none⟩ u) B τ p S := fun _ _ _ _ u h hc => h.box hc u
set_option maxHeartbeats 8000000 in
set_option maxRecDepth 100000 in
theorem spec_any {w : World} {B p : Nat} {τ : Rl} {S : PSt} (h : QO w B τ p S) (hB : B ≤ w.heap.size) (hsz : Sz S 300) (k id t x y z : Int) :
    Calls Tryd.prog 22 #[.pointer (some ⟨p, 0, none⟩), .agg #[.int .i64 k, .int .i64 id, .int .i64 t, .int .i64 x, .int .i64 y, .int .i64 z]] w (Lv (fun w τ S => QO w B τ p S) w τ (stpD S ⟨k, id, t, x, y, z⟩) (acV S ⟨k, id, t, x, y, z⟩)) := by
  obtain ⟨W0, hW0⟩ : ∃ W0, W0 = (w.alloc (.cells #[.int .i64 k, .int .i64 id, .int .i64 t, .int .i64 x, .int .i64 y, .int .i64 z] 46)).alloc (.cells #[.int .i64 0, .int .i64 0, .int .i64 0] 28) := ⟨_, rfl⟩
  have hb0 : Below w.heap.size w W0 := by rw [hW0]; exact ((Below.refl _ _).alloc (Nat.le_refl _) _).alloc (by simp) _
  have hs0 : W0.heap.size = w.heap.size + 2 := by rw [hW0]; simp
  have hd : Cel W0 w.heap.size #[.int .i64 k, .int .i64 id, .int .i64 t, .int .i64 x, .int .i64 y, .int .i64 z] 46 := by rw [hW0]; exact (Cel.new _ _ _).alloc _
  have hbox : Cel W0 (w.heap.size + 1) #[.int .i64 0, .int .i64 0, .int .i64 0] 28 := by
    rw [hW0]
    have := Cel.new (w.alloc (.cells #[.int .i64 k, .int .i64 id, .int .i64 t, .int .i64 x, .int .i64 y, .int .i64 z] 46)) #[.int .i64 0, .int .i64 0, .int .i64 0] 28
    simpa using this
  have d0 := hd.cell 0
  have d1 := hd.cell 1
  have d2 := hd.cell 2
  have d3 := hd.cell 3
  have d4 := hd.cell 4
  have d5 := hd.cell 5
  simp at d0 d1 d2 d3 d4 d5
  have HBX := Lib.hid hbox
  have HW := Lib.hid hW0
  have HB0 := Lib.hid hb0
  have HS0 := Lib.hid hs0
  have h0 := h.below hb0
  have HT := Lib.hid (show τ (w.heap.size + 1) = none from Classical.byContradiction fun c => by have := (h.low _ c).2; omega)
  have hB0 : B ≤ W0.heap.size := by omega
  by_cases hk : k = 0
  · subst hk
    have HC := Lib.hid (qRegister_any h0 hB0 hsz.1 id t x y z)
    have HV := Lib.hid (acV_0 (S := S) (d := ⟨0, id, t, x, y, z⟩) (by simp))
    obtain ⟨E, hE⟩ : ∃ E, E = errD S ⟨0, id, t, x, y, z⟩ := ⟨_, rfl⟩
    rw [← hE] at HC HV
    clear h hsz hE h0
    clear hd hbox hW0 hb0 hs0
    go_enter Tryd.func22, Tryd.ntmps22
    go_wp2_with fail
    rw [← HW.out]
    go_wp2_with (go_at_call 50; (with_reducible refine HC.out.mono ?_); intro e w1 hlv; obtain rfl := hlv.1; have HL := Lib.hid hlv; have C1 := hlv.cel HBX.out HT.out; have l0 := C1.cell 0; have l1 := C1.cell 1; have l2 := C1.cell 2; have f0 := C1.free 0; have f1 := C1.free 1; have f2 := C1.free 2; simp at l0 l1 l2; clear hlv C1)
    refine bodyPost_ret (v := .tuple #[.int .i64 E, .agg #[.int .i64 0, .int .i64 0, .int .i64 0]]) (by simp [results, Tryd.results22, go_sem, l0, l1, l2]) rfl ?_
    exact lv_box (qo_box B p _) HL.out HB0.out (by omega) (by rw [HS0.out]; omega) HT.out (congrArg _ HV.out)
  have n0 := Lib.hid hk
  have k0 : (k == 0) = false := beq_eq_false_iff_ne.2 hk
  clear hk
  by_cases hk : k = 1
  · subst hk
    have HC := Lib.hid (qSetLimits_any h0 hB0 hsz id t x y z)
    have HV := Lib.hid (acV_0 (S := S) (d := ⟨1, id, t, x, y, z⟩) (by simp))
    obtain ⟨E, hE⟩ : ∃ E, E = errD S ⟨1, id, t, x, y, z⟩ := ⟨_, rfl⟩
    rw [← hE] at HC HV
    clear h hsz hE h0
    clear hd hbox hW0 hb0 hs0
    go_enter Tryd.func22, Tryd.ntmps22
    go_wp2_with fail
    rw [← HW.out]
    go_wp2_with (go_at_call 51; (with_reducible refine HC.out.mono ?_); intro e w1 hlv; obtain rfl := hlv.1; have HL := Lib.hid hlv; have C1 := hlv.cel HBX.out HT.out; have l0 := C1.cell 0; have l1 := C1.cell 1; have l2 := C1.cell 2; have f0 := C1.free 0; have f1 := C1.free 1; have f2 := C1.free 2; simp at l0 l1 l2; clear hlv C1)
    refine bodyPost_ret (v := .tuple #[.int .i64 E, .agg #[.int .i64 0, .int .i64 0, .int .i64 0]]) (by simp [results, Tryd.results22, go_sem, l0, l1, l2]) rfl ?_
    exact lv_box (qo_box B p _) HL.out HB0.out (by omega) (by rw [HS0.out]; omega) HT.out (congrArg _ HV.out)
  have n1 := Lib.hid hk
  have k1 : (k == 1) = false := beq_eq_false_iff_ne.2 hk
  clear hk
  by_cases hk : k = 2
  · subst hk
    have HC := Lib.hid (qExclude_any h0 hB0 hsz id t x y z)
    have HV := Lib.hid (acV_0 (S := S) (d := ⟨2, id, t, x, y, z⟩) (by simp))
    obtain ⟨E, hE⟩ : ∃ E, E = errD S ⟨2, id, t, x, y, z⟩ := ⟨_, rfl⟩
    rw [← hE] at HC HV
    clear h hsz hE h0
    clear hd hbox hW0 hb0 hs0
    go_enter Tryd.func22, Tryd.ntmps22
    go_wp2_with fail
    rw [← HW.out]
    go_wp2_with (go_at_call 52; (with_reducible refine HC.out.mono ?_); intro e w1 hlv; obtain rfl := hlv.1; have HL := Lib.hid hlv; have C1 := hlv.cel HBX.out HT.out; have l0 := C1.cell 0; have l1 := C1.cell 1; have l2 := C1.cell 2; have f0 := C1.free 0; have f1 := C1.free 1; have f2 := C1.free 2; simp at l0 l1 l2; clear hlv C1)
    refine bodyPost_ret (v := .tuple #[.int .i64 E, .agg #[.int .i64 0, .int .i64 0, .int .i64 0]]) (by simp [results, Tryd.results22, go_sem, l0, l1, l2]) rfl ?_
    exact lv_box (qo_box B p _) HL.out HB0.out (by omega) (by rw [HS0.out]; omega) HT.out (congrArg _ HV.out)
  have n2 := Lib.hid hk
  have k2 : (k == 2) = false := beq_eq_false_iff_ne.2 hk
  clear hk
  by_cases hk : k = 3
  · subst hk
    have HC := Lib.hid (qAllow_any h0 hsz id t x y z)
    have HV := Lib.hid (acV_0 (S := S) (d := ⟨3, id, t, x, y, z⟩) (by simp))
    obtain ⟨E, hE⟩ : ∃ E, E = errD S ⟨3, id, t, x, y, z⟩ := ⟨_, rfl⟩
    rw [← hE] at HC HV
    clear h hsz hE h0
    clear hd hbox hW0 hb0 hs0
    go_enter Tryd.func22, Tryd.ntmps22
    go_wp2_with fail
    rw [← HW.out]
    go_wp2_with (go_at_call 53; (with_reducible refine HC.out.mono ?_); intro e w1 hlv; obtain rfl := hlv.1; have HL := Lib.hid hlv; have C1 := hlv.cel HBX.out HT.out; have l0 := C1.cell 0; have l1 := C1.cell 1; have l2 := C1.cell 2; have f0 := C1.free 0; have f1 := C1.free 1; have f2 := C1.free 2; simp at l0 l1 l2; clear hlv C1)
    refine bodyPost_ret (v := .tuple #[.int .i64 E, .agg #[.int .i64 0, .int .i64 0, .int .i64 0]]) (by simp [results, Tryd.results22, go_sem, l0, l1, l2]) rfl ?_
    exact lv_box (qo_box B p _) HL.out HB0.out (by omega) (by rw [HS0.out]; omega) HT.out (congrArg _ HV.out)
  have n3 := Lib.hid hk
  have k3 : (k == 3) = false := beq_eq_false_iff_ne.2 hk
  clear hk
  by_cases hk : k = 4
  · subst hk
    have HC := Lib.hid (qCharge_any h0 hB0 hsz id t x y z)
    have HV := Lib.hid (acV_0 (S := S) (d := ⟨4, id, t, x, y, z⟩) (by simp))
    obtain ⟨E, hE⟩ : ∃ E, E = errD S ⟨4, id, t, x, y, z⟩ := ⟨_, rfl⟩
    rw [← hE] at HC HV
    clear h hsz hE h0
    clear hd hbox hW0 hb0 hs0
    go_enter Tryd.func22, Tryd.ntmps22
    go_wp2_with fail
    rw [← HW.out]
    go_wp2_with (go_at_call 54; (with_reducible refine HC.out.mono ?_); intro e w1 hlv; obtain rfl := hlv.1; have HL := Lib.hid hlv; have C1 := hlv.cel HBX.out HT.out; have l0 := C1.cell 0; have l1 := C1.cell 1; have l2 := C1.cell 2; have f0 := C1.free 0; have f1 := C1.free 1; have f2 := C1.free 2; simp at l0 l1 l2; clear hlv C1)
    refine bodyPost_ret (v := .tuple #[.int .i64 E, .agg #[.int .i64 0, .int .i64 0, .int .i64 0]]) (by simp [results, Tryd.results22, go_sem, l0, l1, l2]) rfl ?_
    exact lv_box (qo_box B p _) HL.out HB0.out (by omega) (by rw [HS0.out]; omega) HT.out (congrArg _ HV.out)
  have n4 := Lib.hid hk
  have k4 : (k == 4) = false := beq_eq_false_iff_ne.2 hk
  clear hk
  by_cases hk : k = 5
  · subst hk
    have HC := Lib.hid (qRefund_any h0 hB0 hsz id t x y z)
    have HV := Lib.hid (acV_0 (S := S) (d := ⟨5, id, t, x, y, z⟩) (by simp))
    obtain ⟨E, hE⟩ : ∃ E, E = errD S ⟨5, id, t, x, y, z⟩ := ⟨_, rfl⟩
    rw [← hE] at HC HV
    clear h hsz hE h0
    clear hd hbox hW0 hb0 hs0
    go_enter Tryd.func22, Tryd.ntmps22
    go_wp2_with fail
    rw [← HW.out]
    go_wp2_with (go_at_call 55; (with_reducible refine HC.out.mono ?_); intro e w1 hlv; obtain rfl := hlv.1; have HL := Lib.hid hlv; have C1 := hlv.cel HBX.out HT.out; have l0 := C1.cell 0; have l1 := C1.cell 1; have l2 := C1.cell 2; have f0 := C1.free 0; have f1 := C1.free 1; have f2 := C1.free 2; simp at l0 l1 l2; clear hlv C1)
    refine bodyPost_ret (v := .tuple #[.int .i64 E, .agg #[.int .i64 0, .int .i64 0, .int .i64 0]]) (by simp [results, Tryd.results22, go_sem, l0, l1, l2]) rfl ?_
    exact lv_box (qo_box B p _) HL.out HB0.out (by omega) (by rw [HS0.out]; omega) HT.out (congrArg _ HV.out)
  have n5 := Lib.hid hk
  have k5 : (k == 5) = false := beq_eq_false_iff_ne.2 hk
  clear hk
  have HV := Lib.hid (acV_6 (S := S) (d := ⟨k, id, t, x, y, z⟩) n0.out n1.out n2.out n3.out n4.out n5.out)
  have HS1 := Lib.hid (stp_read (S := S) (d := ⟨k, id, t, x, y, z⟩) n0.out n1.out n2.out n4.out n5.out)
  have hc := qSpent_any h0 hsz id t
  have HPO := Lib.hid h0
  obtain ⟨E, hE⟩ : ∃ E, E = knE (basE id t 0) (knw S id) := ⟨_, rfl⟩
  obtain ⟨a1, ha1⟩ : ∃ a, a = spL (basE id t 0) (knw S id) (thr S id) t 1 := ⟨_, rfl⟩
  obtain ⟨a2, ha2⟩ : ∃ a, a = spL (basE id t 0) (knw S id) (thr S id) t 2 := ⟨_, rfl⟩
  obtain ⟨a3, ha3⟩ : ∃ a, a = spL (basE id t 0) (knw S id) (thr S id) t 3 := ⟨_, rfl⟩
  unfold spT at hc
  rw [← hE, ← ha1, ← ha2, ← ha3] at hc HV
  have HC := Lib.hid hc
  clear h hsz h0 hc hE ha1 ha2 ha3
  clear hd hbox hW0 hb0 hs0
  go_enter Tryd.func22, Tryd.ntmps22
  go_wp2_with fail
  rw [← HW.out]
  go_wp2_with (go_at_call 56; (with_reducible refine HC.out.mono ?_); rintro e w1 ⟨rfl, hb1⟩; have HB1 := Lib.hid hb1; have C1 := HBX.out.below hb1 HBX.out.lt; have l0 := C1.cell 0; have l1 := C1.cell 1; have l2 := C1.cell 2; have f0 := C1.free 0; have f1 := C1.free 1; have f2 := C1.free 2; simp at l0 l1 l2; clear hb1 C1)
  obtain ⟨W1, hW1⟩ : ∃ W1, W1 = w1.alloc (.cells #[.int .i64 a1, .int .i64 a2, .int .i64 a3] 28) := ⟨_, rfl⟩
  have hbw : Below W0.heap.size W0 W1 := by rw [hW1]; exact HB1.out.alloc HB1.out.size _
  have CB := HBX.out.below hbw HBX.out.lt
  have CA : Cel W1 w1.heap.size #[.int .i64 a1, .int .i64 a2, .int .i64 a3] 28 := by rw [hW1]; exact Cel.new _ _ _
  have hq : w1.heap.size ≠ w.heap.size + 1 := by have := HB1.out.size; have := HS0.out; omega
  have HBW := Lib.hid hbw
  rw [← hW1]
  generalize w1.heap.size = q at *
  have m0 := CA.cell 0
  have m1 := CA.cell 1
  have m2 := CA.cell 2
  have o0 := CB.cell 0
  have o1 := CB.cell 1
  have o2 := CB.cell 2
  have p0 := CB.free 0
  have p1 := CB.free 1
  have p2 := CB.free 2
  simp at m0 m1 m2 o0 o1 o2
  clear l0 l1 l2 f0 f1 f2 CA CB hbw hW1
  go_region
  all_goals
    go_wp2
    refine bodyPost_ret (v := .tuple #[.int .i64 E, .agg #[.int .i64 a1, .int .i64 a2, .int .i64 a3]]) (by simp [results, Tryd.results22, go_sem, o0, o1, o2]) rfl ?_
    refine lv_box (qo_box B p _) (Lv.same (v := .int .i64 0) (by rw [HS1.out]; exact (HPO.out.below HBW.out).below (Below.drew (Below.refl _ _))) rfl (HBW.out.drew)) HB0.out (by omega) (by rw [HS0.out]; omega) HT.out (congrArg _ HV.out)
end Go.Proofs.YtainelkenkgppaaDoor
