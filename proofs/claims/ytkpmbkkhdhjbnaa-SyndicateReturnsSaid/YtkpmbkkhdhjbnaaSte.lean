/- The library's stable sort over 'less' and 'swap': the whole. -/
import Derived.Test.YtkpmbkkhdhjbnaaStd
namespace Go.Lott.Stb
open Go.Sort
variable {α : Type} [Inhabited α] {lt : α → α → Bool}
/-- Each block of B elements is sorted, as far as it lies below n. -/
def BlkS (lt : α → α → Bool) (B n : Nat) (d : Array α) : Prop := ∀ p q j, p < q → q < n → j * B ≤ p → q < j * B + B → lt d[q]! d[p]! = false
/-- .. from a on, of B; below a, of 2 B. -/
structure BlkT (lt : α → α → Bool) (B n a : Nat) (d : Array α) : Prop where
  low : BlkS lt (2 * B) a d
  high : ∀ p q j, p < q → q < n → a ≤ p → j * B ≤ p → q < j * B + B → lt d[q]! d[p]! = false
theorem BlkS.start (lt : α → α → Bool) (B : Nat) (d : Array α) : BlkS lt B 0 d := fun p q j h1 h2 => by omega
/-- One more block is sorted. -/
theorem BlkS.step {B j a b : Nat} {d d' : Array α} (h : BlkS lt B a d) (ha : a = j * B) (_ : b ≤ a + B) (m : Merged lt a b d d') : BlkS lt B b d' := fun p q i h1 h2 h3 h4 => by
  by_cases c : q < a
  · rw [m.stab.out q (by omega), m.stab.out p (by omega)]; exact h p q i h1 c h3 h4
  · have h5 : j * B < (i + 1) * B := by rw [Nat.add_mul, Nat.one_mul]; omega
    have h6 : j ≤ i := by have := Nat.lt_of_mul_lt_mul_right h5; omega
    have h7 : j * B ≤ i * B := Nat.mul_le_mul_right B h6
    exact m.sorted p q (by omega) h1 h2
theorem BlkT.start {B n : Nat} {d : Array α} (h : BlkS lt B n d) : BlkT lt B n 0 d := ⟨BlkS.start _ _ _, fun p q j h1 h2 _ h4 h5 => h p q j h1 h2 h4 h5⟩
theorem BlkT.runs {B n j a : Nat} {d : Array α} (h : BlkT lt B n a d) (ha : a = j * (2 * B)) (b : Nat) (hb : b ≤ a + 2 * B) (hn : b ≤ n) (hab : a + B ≤ b) : SortedIn lt a (a + B) d ∧ SortedIn lt (a + B) b d := by
  have e1 : 2 * j * B = a := by rw [ha, Nat.mul_comm 2 j, Nat.mul_assoc]
  have e2 : (2 * j + 1) * B = a + B := by rw [Nat.add_mul, e1, Nat.one_mul]
  exact ⟨fun p q p1 pq q1 => h.high p q (2 * j) pq (by omega) p1 (by omega) (by omega), fun p q p1 pq q1 => h.high p q (2 * j + 1) pq (by omega) (by omega) (by omega) (by omega)⟩
theorem BlkT.step {B n j a b : Nat} {d d' : Array α} (h : BlkT lt B n a d) (ha : a = j * (2 * B)) (hb : b = a + 2 * B) (m : Merged lt a b d d') : BlkT lt B n b d' :=
  ⟨h.low.step ha (by omega) m, fun p q i h1 h2 h3 h4 h5 => by rw [m.stab.out q (by omega), m.stab.out p (by omega)]; exact h.high p q i h1 h2 (by omega) h4 h5⟩
theorem BlkT.last {B n j a : Nat} {d : Array α} (h : BlkT lt B n a d) (ha : a = j * (2 * B)) (hn : n ≤ a + B) : BlkS lt (2 * B) n d := fun p q i h1 h2 h3 h4 => by
  by_cases c : q < a
  · exact h.low p q i h1 c h3 h4
  · have e1 : 2 * j * B = a := by rw [ha, Nat.mul_comm 2 j, Nat.mul_assoc]
    have h5 : j * (2 * B) < (i + 1) * (2 * B) := by rw [Nat.add_mul i, Nat.one_mul]; omega
    have h6 : j ≤ i := by have := Nat.lt_of_mul_lt_mul_right h5; omega
    have h7 : j * (2 * B) ≤ i * (2 * B) := Nat.mul_le_mul_right _ h6
    exact h.high p q (2 * j) h1 h2 (by omega) (by omega) (by omega)
theorem BlkS.all {B n : Nat} {d : Array α} (h : BlkS lt B n d) (hb : n ≤ B) : SortedIn lt 0 n d := fun p q _ pq qn => h p q 0 pq qn (by omega) (by omega)
end Go.Lott.Stb
namespace Go.Proofs.Ytkpmbkkhdhjbnaa
open Go.ChangeShapes Go.WideShapes Go.ChangeAt Go.RowKit Go.Lott
open Go.Shelf Go.Lib Go.Sort Go.Lott.Stb
variable {α : Type} [Inhabited α]
set_option linter.unusedSectionVars false
variable {enc : α → Value} {lt : α → α → Bool} {g : Nat} {lb : Array Value} {sf : Nat} {sb : Array Value} {blk off n : Nat}

theorem symM_any (hS : SWO lt) : ∀ (k : Nat) (W : World) (d : Array α) (a m b : Nat), b - a ≤ k → SEnv enc lt g lb sf sb blk off n W → Holds enc W blk off d → d.size = n → MPre lt n a m b d →
      Calls Try.prog 90 #[.agg #[.func (.func g) #[] lb, .func (.func sf) #[] sb], .int .i64 a, .int .i64 m, .int .i64 b] W (SPost enc blk off n W (fun d' => Merged lt a b d d'))
  | 0, _, _, a, m, b, hk, _, _, _, M => by have := M.am; have := M.mb; omega
  | k + 1, W, d, a, m, b, hk, E, hH, hd, M => by
    have h1 := M.am
    have h2 := M.mb
    by_cases c1 : m = a + 1
    · subst c1; exact symM_one hS E hH hd a b M
    · by_cases c2 : b = m + 1
      · subst c2; exact symM_last hS E hH hd a m (by omega) M
      · exact symM_gen hS k (symM_any hS k) E hH hd a m b hk (by omega) (by omega) M
theorem symM_sw (hS : SWO lt) {w W : World} {d : Array α} (E : SEnv enc lt g lb sf sb blk off n w) (hs : SW enc w blk off d W) (hd : d.size = n) (a m b : Nat) (M : MPre lt n a m b d) :
    Calls Try.prog 90 #[.agg #[.func (.func g) #[] lb, .func (.func sf) #[] sb], .int .i64 a, .int .i64 m, .int .i64 b] W (SPost enc blk off n w (fun d' => Merged lt a b d d')) :=
  (symM_any hS _ W d a m b (Nat.le_refl _) (E.on hs hd) (E.holds hs hd) hd M).mono fun _ _ ⟨he, d', hs', hz', hr⟩ => ⟨he, d', SW.trans' hs E.lt hs' (hz'.trans hd.symm), hz', hr⟩
theorem insF_sw (hS : SWO lt) {w W : World} {d : Array α} (E : SEnv enc lt g lb sf sb blk off n w) (hs : SW enc w blk off d W) (hd : d.size = n) (a b : Nat) (h1 : a ≤ b) (h2 : b ≤ n) :
    Calls Try.prog 89 #[.agg #[.func (.func g) #[] lb, .func (.func sf) #[] sb], .int .i64 a, .int .i64 b] W (SPost enc blk off n w (fun d' => Merged lt a b d d')) := by
  have E2 := E.on hs hd
  have hsz := E.size
  have hm := ins_merged hS d h1 (by omega)
  refine (Try.insertionSort_func_w enc lt g lb sf sb blk off a b d W E2.eg (by rw [hd]; exact E2.less) (by rw [hd]; exact E2.swap) (E.holds hs hd) E2.lt h1 (by omega) (by omega)).mono fun _ _ ⟨he, m, os, hw⟩ => ?_
  have hz := hm.stab.size
  exact ⟨he, _, SW.trans' hs E.lt ⟨m, os, hw⟩ hz, hz.trans hd, hm⟩
set_option maxHeartbeats 4000000 in
set_option maxRecDepth 100000 in
theorem stab_any (hS : SWO lt) {w : World} {d : Array α} (E : SEnv enc lt g lb sf sb blk off n w) (hH : Holds enc w blk off d) (hd : d.size = n) :
    Calls Try.prog 67 #[.agg #[.func (.func g) #[] lb, .func (.func sf) #[] sb], .int .i64 n] w (SPost enc blk off n w (fun d' => Merged lt 0 n d d')) := by
  obtain ⟨E1, S1⟩ := E.box (.cells #[.func (.func g) #[] lb, .func (.func sf) #[] sb] 84) hH hd
  have hn := E.size
  have hlt := E.lt
  have HE := Lib.hid E1
  have HS := Lib.hid S1
  have HL := Lib.hid E.lt
  have HD := Lib.hid hd
  have HSO := Lib.hid hS
  clear E1 S1 hH hd hS
  go_enter Try.func67, Try.ntmps67
  go_wp2
  go_loopw [5, 6] (fun va vb wr => ∃ (j a : Nat) (dk : Array α), va = .int .i64 a ∧ vb = .int .i64 ((a : Int) + 20) ∧ Hid (a = j * 20) ∧ a ≤ n ∧ SW enc (w.alloc (.cells #[.func (.func g) #[] lb, .func (.func sf) #[] sb] 84)) blk off dk wr ∧ dk.size = n ∧
    StabIn lt 0 n d dk ∧ BlkS lt 20 a dk) (fun va _ _ => n - (intOf va).toNat)
  case atStart => exact ⟨0, 0, d, rfl, rfl, rfl, by omega, HS.out, HD.out, StabIn.refl _ _ _ _, BlkS.start _ _ _⟩
  case round =>
    obtain ⟨j, a, dk, rfl, rfl, hj, ha, hS, hz, hst, hbk⟩ := hrel
    obtain ⟨b0, b1⟩ := SW.box hS HL.out
    have HW := Lib.hid hS
    have HZ := Lib.hid hz
    have HST := Lib.hid hst
    have HBK := Lib.hid hbk
    clear hS hz hst hbk
    by_cases hb : a + 20 ≤ n
    · have HC := Lib.hid (insF_sw HSO.out HE.out HW.out HZ.out a (a + 20) (by omega) hb)
      rw [show ((a + 20 : Nat) : Int) = (a : Int) + 20 by omega] at HC
      go_wp2_with (go_at_call 89; refine HC.out.mono ?_; rintro e wa ⟨rfl, d1, hs1, z1, r1⟩)
      go_roundw
      case rel => exact ⟨j + 1, a + 20, d1, by go_num, by go_num, by have := hj.out; exact (by omega : a + 20 = (j + 1) * 20), hb, hs1, z1, HST.out.trans (r1.stab.mono (Nat.zero_le _) (by omega) hb), HBK.out.step hj.out (by omega) r1⟩
      case measure => simp [intOf]; omega
    · have HC := Lib.hid (insF_sw HSO.out HE.out HW.out HZ.out a n ha (Nat.le_refl _))
      go_wp2_with (go_at_call 89; refine HC.out.mono ?_; rintro e wa ⟨rfl, d1, hs1, z1, r1⟩)
      have HS1 := Lib.hid hs1
      have HZ1 := Lib.hid z1
      have HST1 := Lib.hid (HST.out.trans (r1.stab.mono (Nat.zero_le _) ha (Nat.le_refl _)))
      have HBK1 := Lib.hid (HBK.out.step hj.out (by omega) r1)
      clear hs1 z1 r1
      go_loopw [4] (fun vB wr => ∃ (B : Nat) (dk : Array α), vB = .int .i64 B ∧ 20 ≤ B ∧ B ≤ 2 * n + 20 ∧ SW enc (w.alloc (.cells #[.func (.func g) #[] lb, .func (.func sf) #[] sb] 84)) blk off dk wr ∧ dk.size = n ∧
        StabIn lt 0 n d dk ∧ BlkS lt B n dk) (fun vB _ => n - (intOf vB).toNat)
      case atStart => exact ⟨20, d1, rfl, by omega, by omega, HS1.out, HZ1.out, HST1.out, HBK1.out⟩
      case round =>
        obtain ⟨B, dB, rfl, B1, B2, hS, hz, hst, hbk⟩ := hrel
        obtain ⟨b2, b3⟩ := SW.box hS HL.out
        have HWB := Lib.hid hS
        have HZB := Lib.hid hz
        have HSTB := Lib.hid hst
        have HBKB := Lib.hid hbk
        clear hS hz hst hbk
        by_cases hBn : B < n
        · go_wp2
          go_loopw [5, 6] (fun va vb wr => ∃ (j a : Nat) (dk : Array α), va = .int .i64 a ∧ vb = .int .i64 ((a : Int) + 2 * (B : Int)) ∧ Hid (a = j * (2 * B)) ∧ a ≤ n ∧ SW enc (w.alloc (.cells #[.func (.func g) #[] lb, .func (.func sf) #[] sb] 84)) blk off dk wr ∧ dk.size = n ∧
            StabIn lt 0 n d dk ∧ BlkT lt B n a dk) (fun va _ _ => n - (intOf va).toNat)
          case atStart => exact ⟨0, 0, dB, rfl, by go_num, by show 0 = 0 * (2 * B); omega, by omega, HWB.out, HZB.out, HSTB.out, BlkT.start HBKB.out⟩
          case round =>
            obtain ⟨j2, a2, dk2, rfl, rfl, hj2, ha2, hS, hz, hst, hbk⟩ := hrel
            obtain ⟨b4, b5⟩ := SW.box hS HL.out
            have HW2 := Lib.hid hS
            have HZ2 := Lib.hid hz
            have HST2 := Lib.hid hst
            have HBK2 := Lib.hid hbk
            clear hS hz hst hbk
            by_cases hb2 : a2 + 2 * B ≤ n
            · have hr := HBK2.out.runs hj2.out (a2 + 2 * B) (Nat.le_refl _) hb2 (by omega)
              have HC2 := Lib.hid (symM_sw HSO.out HE.out HW2.out HZ2.out a2 (a2 + B) (a2 + 2 * B) ⟨by omega, by omega, hb2, hr.1, hr.2⟩)
              rw [show ((a2 + B : Nat) : Int) = (a2 : Int) + (B : Int) by omega, show ((a2 + 2 * B : Nat) : Int) = (a2 : Int) + 2 * (B : Int) by omega] at HC2
              clear hr
              go_wp2_with (go_at_call 90; refine HC2.out.mono ?_; rintro e wb ⟨rfl, d3, hs3, z3, r3⟩)
              go_roundw
              case rel => exact ⟨j2 + 1, a2 + 2 * B, d3, by go_num, by go_num, by have := hj2.out; show a2 + 2 * B = (j2 + 1) * (2 * B); rw [Nat.add_mul j2, Nat.one_mul, ← this], hb2, hs3, z3, HST2.out.trans (r3.stab.mono (Nat.zero_le _) (by omega) hb2), HBK2.out.step hj2.out rfl r3⟩
              case measure => simp [intOf]; omega
            · by_cases hm : a2 + B < n
              · have hr := HBK2.out.runs hj2.out n (by omega) (Nat.le_refl _) (by omega)
                have HC2 := Lib.hid (symM_sw HSO.out HE.out HW2.out HZ2.out a2 (a2 + B) n ⟨by omega, hm, Nat.le_refl _, hr.1, hr.2⟩)
                rw [show ((a2 + B : Nat) : Int) = (a2 : Int) + (B : Int) by omega] at HC2
                clear hr
                go_wp2_with (go_at_call 90; refine HC2.out.mono ?_; rintro e wb ⟨rfl, d3, hs3, z3, r3⟩)
                go_roundw
                case rel => exact ⟨B * 2, d3, by go_num, by omega, by omega, hs3, z3, HST2.out.trans (r3.stab.mono (Nat.zero_le _) ha2 (Nat.le_refl _)), by rw [Nat.mul_comm B 2]; exact HBK2.out.low.step hj2.out (by omega) r3⟩
                case measure => simp [intOf]; omega
              · go_wp2
                go_roundw
                case rel => exact ⟨B * 2, dk2, by go_num, by omega, by omega, HW2.out, HZ2.out, HST2.out, by rw [Nat.mul_comm B 2]; exact HBK2.out.last hj2.out (by omega)⟩
                case measure => simp [intOf]; omega
        · go_wp2
          go_end0
          exact ⟨rfl, dB, SW.ofAlloc HWB.out HL.out, HZB.out, ⟨HSTB.out, HBKB.out.all (by omega)⟩⟩
end Go.Proofs.Ytkpmbkkhdhjbnaa
