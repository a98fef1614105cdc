/- The library's stable sort over 'less' and 'swap': the merge, by halves. -/
import Derived.Test.YtkpmbkkhdhjbnaaStc
namespace Go.Lott.Stb
open Go.Sort
variable {α : Type} [Inhabited α] {lt : α → α → Bool}
/-- Behind the exchange: two halves of two sorted runs each. -/
structure Halves (lt : α → α → Bool) (a s mid e b : Nat) (d d1 : Array α) : Prop where
  st : StabIn lt a b d d1
  s1 : SortedIn lt a s d1
  s2 : SortedIn lt s mid d1
  s3 : SortedIn lt mid e d1
  s4 : SortedIn lt e b d1
  le : ∀ i j, a ≤ i → i < mid → mid ≤ j → j < b → lt d1[j]! d1[i]! = false
theorem halves (hS : SWO lt) {a m b mid lo hi s : Nat} {d : Array α} (B : Bnd a m b mid lo hi) (F : Found lt d (mid + m) lo hi s) (sl : SortedIn lt a m d) (sr : SortedIn lt m b d) :
    ∀ d1, RotAt s m (mid + m - s) d d1 → Halves lt a s mid (mid + m - s) b d d1 := fun d1 hr => by
  obtain ⟨h1, h2, h3, h4, h5, h6⟩ := merge_rot hS B F sl sr hr
  exact ⟨h1, h2, h3, h4, h5, h6⟩
theorem Merged.left {a s mid : Nat} {d : Array α} (h1 : SortedIn lt a s d) (h2 : SortedIn lt s mid d) (_ : a ≤ s) (_ : s ≤ mid) (h : ¬ (a < s ∧ s < mid)) : Merged lt a mid d d := by
  refine Merged.same ?_
  by_cases c : a < s
  · obtain rfl : s = mid := by omega
    exact h1
  · obtain rfl : a = s := by omega
    exact h2
theorem SortedIn.cong {a b : Nat} {d d' : Array α} (h : SortedIn lt a b d) (he : ∀ k, a ≤ k → k < b → d'[k]! = d[k]!) : SortedIn lt a b d' := fun i j i1 ij j1 => by
  rw [he i i1 (by omega), he j (by omega) j1]; exact h i j i1 ij j1
end Go.Lott.Stb
namespace Go.Proofs.Ytkpmbkkhdhjbnaa
open Go.ChangeShapes Go.WideShapes Go.ChangeAt Go.RowKit Go.Lott
open Go.Shelf Go.Lib Go.Sort Go.Lott.Stb
variable {α : Type} [Inhabited α]
set_option linter.unusedSectionVars false
variable {enc : α → Value} {lt : α → α → Bool} {g : Nat} {lb : Array Value} {sf : Nat} {sb : Array Value} {blk off n : Nat}

set_option maxHeartbeats 8000000 in
set_option maxRecDepth 100000 in
theorem symM_gen (hS : SWO lt) (k : Nat) (ih : ∀ (W : World) (d : Array α) (a m b : Nat), b - a ≤ k → SEnv enc lt g lb sf sb blk off n W → Holds enc W blk off d → d.size = n → MPre lt n a m b d →
      Calls Try.prog 90 #[.agg #[.func (.func g) #[] lb, .func (.func sf) #[] sb], .int .i64 a, .int .i64 m, .int .i64 b] W (SPost enc blk off n W (fun d' => Merged lt a b d d')))
    {w : World} {d : Array α} (E : SEnv enc lt g lb sf sb blk off n w) (hH : Holds enc w blk off d) (hd : d.size = n) (a m b : Nat) (hk : b - a ≤ k + 1) (h2 : a + 2 ≤ m) (h3 : m + 2 ≤ b) (M : MPre lt n a m b d) :
    Calls Try.prog 90 #[.agg #[.func (.func g) #[] lb, .func (.func sf) #[] sb], .int .i64 a, .int .i64 m, .int .i64 b] w (SPost enc blk off n w (fun d' => Merged lt a b d d')) := by
  obtain ⟨E1, S1⟩ := E.box (.cells #[.func (.func g) #[] lb, .func (.func sf) #[] sb] 84) hH hd
  have HI : Hid (∀ (dk : Array α) (W : World) (a m b : Nat), b - a ≤ k → SW enc (w.alloc (.cells #[.func (.func g) #[] lb, .func (.func sf) #[] sb] 84)) blk off dk W → dk.size = n → MPre lt n a m b dk →
      Calls Try.prog 90 #[.agg #[.func (.func g) #[] lb, .func (.func sf) #[] sb], .int .i64 a, .int .i64 m, .int .i64 b] W (SPost enc blk off n (w.alloc (.cells #[.func (.func g) #[] lb, .func (.func sf) #[] sb] 84)) (fun d' => Merged lt a b dk d'))) := Lib.hid (fun dk W a m b hk hs hz M =>
    (ih W dk a m b hk (E1.on hs hz) (E1.holds hs hz) hz M).mono fun _ _ ⟨he, d', hs', hz', hr⟩ => ⟨he, d', SW.trans' hs E1.lt hs' (hz'.trans hz.symm), hz', hr⟩)
  have hn := E.size
  have hlt := E.lt
  have HE := Lib.hid E1
  have HS := Lib.hid S1
  have HL := Lib.hid E.lt
  have eg := E1.eg
  have HD := Lib.hid hd
  have HM := Lib.hid M
  have bn := M.bn
  have HSO := Lib.hid hS
  clear E1 S1 hH hd hS ih
  obtain ⟨mid, hmid⟩ : ∃ mid, mid = (a + b) / 2 := ⟨_, rfl⟩
  have em : ((a : Int) + (b : Int)) / 2 = (mid : Int) := by omega
  have m1 : a + 2 ≤ mid := by omega
  have m2 : mid + 2 ≤ b := by omega
  have c0 : ((m : Int) - (a : Int) == 1) = false := by rw [beq_eq_false_iff_ne]; omega
  have c1 : ((b : Int) - (m : Int) == 1) = false := by rw [beq_eq_false_iff_ne]; omega
  by_cases hc : mid < m
  · obtain ⟨lo, hlo⟩ : ∃ lo, lo = mid + m - b := ⟨_, rfl⟩
    obtain ⟨hi, hhi⟩ : ∃ hi, hi = mid := ⟨_, rfl⟩
    have BB := Lib.hid (show Bnd a m b mid lo hi from ⟨by omega, by omega, hmid, Or.inl ⟨hc, hlo, hhi⟩⟩)
    have l1 : a ≤ lo := by omega
    have l2 : lo ≤ hi := by omega
    have l3 : hi ≤ m := by omega
    have l4 : hi ≤ mid := by omega
    have l5 : mid + m ≤ b + lo := by omega
    have l6 : b + lo ≤ mid + m := by omega
    have l7 : mid ≤ hi := by omega
    have HLO := Lib.hid hlo
    have HHI := Lib.hid hhi
    have HMID := Lib.hid hmid
    clear hlo hhi hmid
    go_enter Try.func90, Try.ntmps90
    go_wp2
    go_loopw [18, 19] (fun vi vj wr => ∃ (s r : Nat), vi = .int .i64 s ∧ vj = .int .i64 r ∧ lo ≤ s ∧ s ≤ r ∧ r ≤ hi ∧ SW enc (w.alloc (.cells #[.func (.func g) #[] lb, .func (.func sf) #[] sb] 84)) blk off d wr ∧
      (lo < s → lt d[mid + m - s]! d[s - 1]! = false) ∧ (r < hi → lt d[mid + m - 1 - r]! d[r]! = true)) (fun vi vj _ => (intOf vj).toNat - (intOf vi).toNat)
    case atStart => exact ⟨lo, hi, by go_num, by go_num, by omega, by omega, by omega, HS.out, fun h => by omega, fun h => by omega⟩
    case round =>
      obtain ⟨s, r, rfl, rfl, i1, ij, jb, hS, hp, hq⟩ := hrel
      obtain ⟨b0, b1⟩ := SW.box hS HL.out
      have HW := Lib.hid hS
      have HP := Lib.hid hp
      have HQ := Lib.hid hq
      clear hS hp hq
      by_cases hij : s < r
      · obtain ⟨c, hh⟩ : ∃ c : Nat, c = (s + r) / 2 := ⟨_, rfl⟩
        have h1 : s ≤ c := by omega
        have h2 : c < r := by omega
        have hl := HW.out.less HE.out.less HD.out (mid + m - 1 - c) c (by omega) (by omega)
        have eh : ((s : Int) + (r : Int)) / 2 = (c : Int) := by omega
        have HH := Lib.hid hh
        clear hh
        rw [show ((mid + m - 1 - c : Nat) : Int) = (mid : Int) + (m : Int) - 1 - (c : Int) by omega] at hl
        cases hlv : lt d[mid + m - 1 - c]! d[c]! with
        | false =>
          rw [hlv] at hl
          have HC := Lib.hid hl
          have HV := Lib.hid hlv
          clear hl hlv
          go_wp2_with (go_at_fn g; refine HC.out.mono ?_; rintro e w' ⟨rfl, q, rfl⟩)
          go_roundw
          case rel => exact ⟨c + 1, r, by go_num, rfl, by omega, by omega, jb, HW.out.drewN q, fun _ => by rw [show mid + m - (c + 1) = mid + m - 1 - c by omega, show c + 1 - 1 = c by omega]; exact HV.out, HQ.out⟩
          case measure => simp [intOf]; omega
        | true =>
          rw [hlv] at hl
          have HC := Lib.hid hl
          have HV := Lib.hid hlv
          clear hl hlv
          go_wp2_with (go_at_fn g; refine HC.out.mono ?_; rintro e w' ⟨rfl, q, rfl⟩)
          go_roundw
          case rel => exact ⟨s, c, rfl, rfl, i1, by omega, by omega, HW.out.drewN q, HP.out, fun _ => HV.out⟩
          case measure => simp [intOf]; omega
      · obtain rfl : s = r := by omega
        obtain ⟨e, he⟩ : ∃ e, mid + m - s = e := ⟨_, rfl⟩
        have hH := halves HSO.out BB.out ⟨i1, jb, HP.out, HQ.out⟩ HM.out.sl HM.out.sr
        rw [he] at hH
        have H1 := Lib.hid hH
        have es : s ≤ m := by have := BB.out.lohi; omega
        have es2 : s ≤ mid := by have := BB.out.lohi; omega
        have es3 : a ≤ s := by have := BB.out.lohi; omega
        have es4 : e ≤ b := by have := BB.out.lohi; omega
        have es5 : m ≤ e := by omega
        have es6 : mid ≤ e := by omega
        have ee : (mid : Int) + (m : Int) - (s : Int) = (e : Int) := by omega
        have k1 : mid - a ≤ k := by omega
        have k2 : b - mid ≤ k := by omega
        have q1 : e ≤ n := by omega
        have q2 : mid ≤ n := by omega
        clear hH he hij
        by_cases h1 : s < m ∧ m < e
        · obtain ⟨h1a, h1b⟩ := h1
          by_cases h2 : a < s ∧ s < mid
          · obtain ⟨h2a, h2b⟩ := h2
            by_cases h3 : mid < e ∧ e < b
            · obtain ⟨h3a, h3b⟩ := h3
              go_wp2_with (first | (go_at_call 96; refine (rotF_sw HE.out HW.out HD.out s m e h1a h1b q1).mono ?_; rintro e' wa ⟨rfl, d1, hs1, z1, r1⟩; have HV1 := Lib.hid (H1.out d1 r1); obtain ⟨ca0, ca1⟩ := SW.box hs1 HL.out) | (go_at_call 90; have hpl : MPre lt n a s mid d1 := ⟨h2a, h2b, q2, HV1.out.s1, HV1.out.s2⟩; ((with_reducible refine (HI.out d1 _ a s mid k1 hs1 z1 hpl).mono ?_); rintro e' wb ⟨rfl, d2, hs2, z2, r2⟩; have HV2 := Lib.hid r2; obtain ⟨cb0, cb1⟩ := SW.box hs2 HL.out; clear hpl)) | (go_at_call 90; have hpr : MPre lt n mid e b d2 := ⟨h3a, h3b, bn, (SortedIn.cong HV1.out.s3 (fun k k1 k2 => HV2.out.stab.out k (by omega))), (SortedIn.cong HV1.out.s4 (fun k k1 k2 => HV2.out.stab.out k (by omega)))⟩; ((with_reducible refine (HI.out d2 _ mid e b k2 hs2 z2 hpr).mono ?_); rintro e' wc ⟨rfl, d3, hs3, z3, r3⟩; have HV3 := Lib.hid r3; clear hpr)))
              all_goals first
                | (go_end0; exact ⟨rfl, _, SW.ofAlloc hs3 HL.out, z3, merge_halves HSO.out (by omega) (by omega) HV1.out.st HV2.out HV3.out HV1.out.le⟩)
                | (exfalso; have hx := HR0.out; omega)
                | (exfalso; have hx := HL0.out; omega)
                | (exfalso; have hx := HO0.out; omega)
            · have HR0 := Lib.hid h3
              clear h3
              go_wp2_with (first | (go_at_call 96; refine (rotF_sw HE.out HW.out HD.out s m e h1a h1b q1).mono ?_; rintro e' wa ⟨rfl, d1, hs1, z1, r1⟩; have HV1 := Lib.hid (H1.out d1 r1); obtain ⟨ca0, ca1⟩ := SW.box hs1 HL.out) | (go_at_call 90; have hpl : MPre lt n a s mid d1 := ⟨h2a, h2b, q2, HV1.out.s1, HV1.out.s2⟩; ((with_reducible refine (HI.out d1 _ a s mid k1 hs1 z1 hpl).mono ?_); rintro e' wb ⟨rfl, d2, hs2, z2, r2⟩; have HV2 := Lib.hid r2; obtain ⟨cb0, cb1⟩ := SW.box hs2 HL.out; clear hpl)))
              all_goals first
                | (go_end0; exact ⟨rfl, _, SW.ofAlloc hs2 HL.out, z2, merge_halves HSO.out (by omega) (by omega) HV1.out.st HV2.out (Merged.left (SortedIn.cong HV1.out.s3 (fun k k1 k2 => HV2.out.stab.out k (by omega))) (SortedIn.cong HV1.out.s4 (fun k k1 k2 => HV2.out.stab.out k (by omega))) (by omega) (by omega) HR0.out) HV1.out.le⟩)
                | (exfalso; have hx := HR0.out; omega)
                | (exfalso; have hx := HL0.out; omega)
                | (exfalso; have hx := HO0.out; omega)
          · have HL0 := Lib.hid h2
            clear h2
            by_cases h3 : mid < e ∧ e < b
            · obtain ⟨h3a, h3b⟩ := h3
              go_wp2_with (first | (go_at_call 96; refine (rotF_sw HE.out HW.out HD.out s m e h1a h1b q1).mono ?_; rintro e' wa ⟨rfl, d1, hs1, z1, r1⟩; have HV1 := Lib.hid (H1.out d1 r1); obtain ⟨ca0, ca1⟩ := SW.box hs1 HL.out) | (go_at_call 90; have hpr : MPre lt n mid e b d1 := ⟨h3a, h3b, bn, HV1.out.s3, HV1.out.s4⟩; ((with_reducible refine (HI.out d1 _ mid e b k2 hs1 z1 hpr).mono ?_); rintro e' wc ⟨rfl, d3, hs3, z3, r3⟩; have HV3 := Lib.hid r3; clear hpr)))
              all_goals first
                | (go_end0; exact ⟨rfl, _, SW.ofAlloc hs3 HL.out, z3, merge_halves HSO.out (by omega) (by omega) HV1.out.st (Merged.left HV1.out.s1 HV1.out.s2 (by omega) (by omega) HL0.out) HV3.out HV1.out.le⟩)
                | (exfalso; have hx := HR0.out; omega)
                | (exfalso; have hx := HL0.out; omega)
                | (exfalso; have hx := HO0.out; omega)
            · have HR0 := Lib.hid h3
              clear h3
              go_wp2_with (first | (go_at_call 96; refine (rotF_sw HE.out HW.out HD.out s m e h1a h1b q1).mono ?_; rintro e' wa ⟨rfl, d1, hs1, z1, r1⟩; have HV1 := Lib.hid (H1.out d1 r1); obtain ⟨ca0, ca1⟩ := SW.box hs1 HL.out))
              all_goals first
                | (go_end0; exact ⟨rfl, _, SW.ofAlloc hs1 HL.out, z1, merge_halves HSO.out (by omega) (by omega) HV1.out.st (Merged.left HV1.out.s1 HV1.out.s2 (by omega) (by omega) HL0.out) (Merged.left HV1.out.s3 HV1.out.s4 (by omega) (by omega) HR0.out) HV1.out.le⟩)
                | (exfalso; have hx := HR0.out; omega)
                | (exfalso; have hx := HL0.out; omega)
                | (exfalso; have hx := HO0.out; omega)
        · have HV1 := Lib.hid (H1.out d (RotAt.none s m e d (by omega)))
          have HO0 := Lib.hid h1
          clear h1
          by_cases h2 : a < s ∧ s < mid
          · obtain ⟨h2a, h2b⟩ := h2
            by_cases h3 : mid < e ∧ e < b
            · obtain ⟨h3a, h3b⟩ := h3
              go_wp2_with (first | fail | (go_at_call 90; have hpl : MPre lt n a s mid d := ⟨h2a, h2b, q2, HV1.out.s1, HV1.out.s2⟩; ((with_reducible refine (HI.out d _ a s mid k1 HW.out HD.out hpl).mono ?_); rintro e' wb ⟨rfl, d2, hs2, z2, r2⟩; have HV2 := Lib.hid r2; obtain ⟨cb0, cb1⟩ := SW.box hs2 HL.out; clear hpl)) | (go_at_call 90; have hpr : MPre lt n mid e b d2 := ⟨h3a, h3b, bn, (SortedIn.cong HV1.out.s3 (fun k k1 k2 => HV2.out.stab.out k (by omega))), (SortedIn.cong HV1.out.s4 (fun k k1 k2 => HV2.out.stab.out k (by omega)))⟩; ((with_reducible refine (HI.out d2 _ mid e b k2 hs2 z2 hpr).mono ?_); rintro e' wc ⟨rfl, d3, hs3, z3, r3⟩; have HV3 := Lib.hid r3; clear hpr)))
              all_goals first
                | (go_end0; exact ⟨rfl, _, SW.ofAlloc hs3 HL.out, z3, merge_halves HSO.out (by omega) (by omega) HV1.out.st HV2.out HV3.out HV1.out.le⟩)
                | (exfalso; have hx := HR0.out; omega)
                | (exfalso; have hx := HL0.out; omega)
                | (exfalso; have hx := HO0.out; omega)
            · have HR0 := Lib.hid h3
              clear h3
              go_wp2_with (first | fail | (go_at_call 90; have hpl : MPre lt n a s mid d := ⟨h2a, h2b, q2, HV1.out.s1, HV1.out.s2⟩; ((with_reducible refine (HI.out d _ a s mid k1 HW.out HD.out hpl).mono ?_); rintro e' wb ⟨rfl, d2, hs2, z2, r2⟩; have HV2 := Lib.hid r2; obtain ⟨cb0, cb1⟩ := SW.box hs2 HL.out; clear hpl)))
              all_goals first
                | (go_end0; exact ⟨rfl, _, SW.ofAlloc hs2 HL.out, z2, merge_halves HSO.out (by omega) (by omega) HV1.out.st HV2.out (Merged.left (SortedIn.cong HV1.out.s3 (fun k k1 k2 => HV2.out.stab.out k (by omega))) (SortedIn.cong HV1.out.s4 (fun k k1 k2 => HV2.out.stab.out k (by omega))) (by omega) (by omega) HR0.out) HV1.out.le⟩)
                | (exfalso; have hx := HR0.out; omega)
                | (exfalso; have hx := HL0.out; omega)
                | (exfalso; have hx := HO0.out; omega)
          · have HL0 := Lib.hid h2
            clear h2
            by_cases h3 : mid < e ∧ e < b
            · obtain ⟨h3a, h3b⟩ := h3
              go_wp2_with (first | fail | (go_at_call 90; have hpr : MPre lt n mid e b d := ⟨h3a, h3b, bn, HV1.out.s3, HV1.out.s4⟩; ((with_reducible refine (HI.out d _ mid e b k2 HW.out HD.out hpr).mono ?_); rintro e' wc ⟨rfl, d3, hs3, z3, r3⟩; have HV3 := Lib.hid r3; clear hpr)))
              all_goals first
                | (go_end0; exact ⟨rfl, _, SW.ofAlloc hs3 HL.out, z3, merge_halves HSO.out (by omega) (by omega) HV1.out.st (Merged.left HV1.out.s1 HV1.out.s2 (by omega) (by omega) HL0.out) HV3.out HV1.out.le⟩)
                | (exfalso; have hx := HR0.out; omega)
                | (exfalso; have hx := HL0.out; omega)
                | (exfalso; have hx := HO0.out; omega)
            · have HR0 := Lib.hid h3
              clear h3
              go_wp2_with (first | fail)
              all_goals first
                | (go_end0; exact ⟨rfl, _, SW.ofAlloc HW.out HL.out, HD.out, merge_halves HSO.out (by omega) (by omega) HV1.out.st (Merged.left HV1.out.s1 HV1.out.s2 (by omega) (by omega) HL0.out) (Merged.left HV1.out.s3 HV1.out.s4 (by omega) (by omega) HR0.out) HV1.out.le⟩)
                | (exfalso; have hx := HR0.out; omega)
                | (exfalso; have hx := HL0.out; omega)
                | (exfalso; have hx := HO0.out; omega)
  · obtain ⟨lo, hlo⟩ : ∃ lo, lo = a := ⟨_, rfl⟩
    obtain ⟨hi, hhi⟩ : ∃ hi, hi = m := ⟨_, rfl⟩
    have BB := Lib.hid (show Bnd a m b mid lo hi from ⟨by omega, by omega, hmid, Or.inr ⟨by omega, hlo, hhi⟩⟩)
    have l1 : a ≤ lo := by omega
    have l2 : lo ≤ hi := by omega
    have l3 : hi ≤ m := by omega
    have l4 : hi ≤ mid := by omega
    have l5 : lo ≤ a := by omega
    have l6 : m ≤ hi := by omega
    have HLO := Lib.hid hlo
    have HHI := Lib.hid hhi
    have HMID := Lib.hid hmid
    clear hlo hhi hmid
    go_enter Try.func90, Try.ntmps90
    go_wp2
    go_loopw [18, 19] (fun vi vj wr => ∃ (s r : Nat), vi = .int .i64 s ∧ vj = .int .i64 r ∧ lo ≤ s ∧ s ≤ r ∧ r ≤ hi ∧ SW enc (w.alloc (.cells #[.func (.func g) #[] lb, .func (.func sf) #[] sb] 84)) blk off d wr ∧
      (lo < s → lt d[mid + m - s]! d[s - 1]! = false) ∧ (r < hi → lt d[mid + m - 1 - r]! d[r]! = true)) (fun vi vj _ => (intOf vj).toNat - (intOf vi).toNat)
    case atStart => exact ⟨lo, hi, by go_num, by go_num, by omega, by omega, by omega, HS.out, fun h => by omega, fun h => by omega⟩
    case round =>
      obtain ⟨s, r, rfl, rfl, i1, ij, jb, hS, hp, hq⟩ := hrel
      obtain ⟨b0, b1⟩ := SW.box hS HL.out
      have HW := Lib.hid hS
      have HP := Lib.hid hp
      have HQ := Lib.hid hq
      clear hS hp hq
      by_cases hij : s < r
      · obtain ⟨c, hh⟩ : ∃ c : Nat, c = (s + r) / 2 := ⟨_, rfl⟩
        have h1 : s ≤ c := by omega
        have h2 : c < r := by omega
        have hl := HW.out.less HE.out.less HD.out (mid + m - 1 - c) c (by omega) (by omega)
        have eh : ((s : Int) + (r : Int)) / 2 = (c : Int) := by omega
        have HH := Lib.hid hh
        clear hh
        rw [show ((mid + m - 1 - c : Nat) : Int) = (mid : Int) + (m : Int) - 1 - (c : Int) by omega] at hl
        cases hlv : lt d[mid + m - 1 - c]! d[c]! with
        | false =>
          rw [hlv] at hl
          have HC := Lib.hid hl
          have HV := Lib.hid hlv
          clear hl hlv
          go_wp2_with (go_at_fn g; refine HC.out.mono ?_; rintro e w' ⟨rfl, q, rfl⟩)
          go_roundw
          case rel => exact ⟨c + 1, r, by go_num, rfl, by omega, by omega, jb, HW.out.drewN q, fun _ => by rw [show mid + m - (c + 1) = mid + m - 1 - c by omega, show c + 1 - 1 = c by omega]; exact HV.out, HQ.out⟩
          case measure => simp [intOf]; omega
        | true =>
          rw [hlv] at hl
          have HC := Lib.hid hl
          have HV := Lib.hid hlv
          clear hl hlv
          go_wp2_with (go_at_fn g; refine HC.out.mono ?_; rintro e w' ⟨rfl, q, rfl⟩)
          go_roundw
          case rel => exact ⟨s, c, rfl, rfl, i1, by omega, by omega, HW.out.drewN q, HP.out, fun _ => HV.out⟩
          case measure => simp [intOf]; omega
      · obtain rfl : s = r := by omega
        obtain ⟨e, he⟩ : ∃ e, mid + m - s = e := ⟨_, rfl⟩
        have hH := halves HSO.out BB.out ⟨i1, jb, HP.out, HQ.out⟩ HM.out.sl HM.out.sr
        rw [he] at hH
        have H1 := Lib.hid hH
        have es : s ≤ m := by have := BB.out.lohi; omega
        have es2 : s ≤ mid := by have := BB.out.lohi; omega
        have es3 : a ≤ s := by have := BB.out.lohi; omega
        have es4 : e ≤ b := by have := BB.out.lohi; omega
        have es5 : m ≤ e := by omega
        have es6 : mid ≤ e := by omega
        have ee : (mid : Int) + (m : Int) - (s : Int) = (e : Int) := by omega
        have k1 : mid - a ≤ k := by omega
        have k2 : b - mid ≤ k := by omega
        have q1 : e ≤ n := by omega
        have q2 : mid ≤ n := by omega
        clear hH he hij
        by_cases h1 : s < m ∧ m < e
        · obtain ⟨h1a, h1b⟩ := h1
          by_cases h2 : a < s ∧ s < mid
          · obtain ⟨h2a, h2b⟩ := h2
            by_cases h3 : mid < e ∧ e < b
            · obtain ⟨h3a, h3b⟩ := h3
              go_wp2_with (first | (go_at_call 96; refine (rotF_sw HE.out HW.out HD.out s m e h1a h1b q1).mono ?_; rintro e' wa ⟨rfl, d1, hs1, z1, r1⟩; have HV1 := Lib.hid (H1.out d1 r1); obtain ⟨ca0, ca1⟩ := SW.box hs1 HL.out) | (go_at_call 90; have hpl : MPre lt n a s mid d1 := ⟨h2a, h2b, q2, HV1.out.s1, HV1.out.s2⟩; ((with_reducible refine (HI.out d1 _ a s mid k1 hs1 z1 hpl).mono ?_); rintro e' wb ⟨rfl, d2, hs2, z2, r2⟩; have HV2 := Lib.hid r2; obtain ⟨cb0, cb1⟩ := SW.box hs2 HL.out; clear hpl)) | (go_at_call 90; have hpr : MPre lt n mid e b d2 := ⟨h3a, h3b, bn, (SortedIn.cong HV1.out.s3 (fun k k1 k2 => HV2.out.stab.out k (by omega))), (SortedIn.cong HV1.out.s4 (fun k k1 k2 => HV2.out.stab.out k (by omega)))⟩; ((with_reducible refine (HI.out d2 _ mid e b k2 hs2 z2 hpr).mono ?_); rintro e' wc ⟨rfl, d3, hs3, z3, r3⟩; have HV3 := Lib.hid r3; clear hpr)))
              all_goals first
                | (go_end0; exact ⟨rfl, _, SW.ofAlloc hs3 HL.out, z3, merge_halves HSO.out (by omega) (by omega) HV1.out.st HV2.out HV3.out HV1.out.le⟩)
                | (exfalso; have hx := HR0.out; omega)
                | (exfalso; have hx := HL0.out; omega)
                | (exfalso; have hx := HO0.out; omega)
            · have HR0 := Lib.hid h3
              clear h3
              go_wp2_with (first | (go_at_call 96; refine (rotF_sw HE.out HW.out HD.out s m e h1a h1b q1).mono ?_; rintro e' wa ⟨rfl, d1, hs1, z1, r1⟩; have HV1 := Lib.hid (H1.out d1 r1); obtain ⟨ca0, ca1⟩ := SW.box hs1 HL.out) | (go_at_call 90; have hpl : MPre lt n a s mid d1 := ⟨h2a, h2b, q2, HV1.out.s1, HV1.out.s2⟩; ((with_reducible refine (HI.out d1 _ a s mid k1 hs1 z1 hpl).mono ?_); rintro e' wb ⟨rfl, d2, hs2, z2, r2⟩; have HV2 := Lib.hid r2; obtain ⟨cb0, cb1⟩ := SW.box hs2 HL.out; clear hpl)))
              all_goals first
                | (go_end0; exact ⟨rfl, _, SW.ofAlloc hs2 HL.out, z2, merge_halves HSO.out (by omega) (by omega) HV1.out.st HV2.out (Merged.left (SortedIn.cong HV1.out.s3 (fun k k1 k2 => HV2.out.stab.out k (by omega))) (SortedIn.cong HV1.out.s4 (fun k k1 k2 => HV2.out.stab.out k (by omega))) (by omega) (by omega) HR0.out) HV1.out.le⟩)
                | (exfalso; have hx := HR0.out; omega)
                | (exfalso; have hx := HL0.out; omega)
                | (exfalso; have hx := HO0.out; omega)
          · have HL0 := Lib.hid h2
            clear h2
            by_cases h3 : mid < e ∧ e < b
            · obtain ⟨h3a, h3b⟩ := h3
              go_wp2_with (first | (go_at_call 96; refine (rotF_sw HE.out HW.out HD.out s m e h1a h1b q1).mono ?_; rintro e' wa ⟨rfl, d1, hs1, z1, r1⟩; have HV1 := Lib.hid (H1.out d1 r1); obtain ⟨ca0, ca1⟩ := SW.box hs1 HL.out) | (go_at_call 90; have hpr : MPre lt n mid e b d1 := ⟨h3a, h3b, bn, HV1.out.s3, HV1.out.s4⟩; ((with_reducible refine (HI.out d1 _ mid e b k2 hs1 z1 hpr).mono ?_); rintro e' wc ⟨rfl, d3, hs3, z3, r3⟩; have HV3 := Lib.hid r3; clear hpr)))
              all_goals first
                | (go_end0; exact ⟨rfl, _, SW.ofAlloc hs3 HL.out, z3, merge_halves HSO.out (by omega) (by omega) HV1.out.st (Merged.left HV1.out.s1 HV1.out.s2 (by omega) (by omega) HL0.out) HV3.out HV1.out.le⟩)
                | (exfalso; have hx := HR0.out; omega)
                | (exfalso; have hx := HL0.out; omega)
                | (exfalso; have hx := HO0.out; omega)
            · have HR0 := Lib.hid h3
              clear h3
              go_wp2_with (first | (go_at_call 96; refine (rotF_sw HE.out HW.out HD.out s m e h1a h1b q1).mono ?_; rintro e' wa ⟨rfl, d1, hs1, z1, r1⟩; have HV1 := Lib.hid (H1.out d1 r1); obtain ⟨ca0, ca1⟩ := SW.box hs1 HL.out))
              all_goals first
                | (go_end0; exact ⟨rfl, _, SW.ofAlloc hs1 HL.out, z1, merge_halves HSO.out (by omega) (by omega) HV1.out.st (Merged.left HV1.out.s1 HV1.out.s2 (by omega) (by omega) HL0.out) (Merged.left HV1.out.s3 HV1.out.s4 (by omega) (by omega) HR0.out) HV1.out.le⟩)
                | (exfalso; have hx := HR0.out; omega)
                | (exfalso; have hx := HL0.out; omega)
                | (exfalso; have hx := HO0.out; omega)
        · have HV1 := Lib.hid (H1.out d (RotAt.none s m e d (by omega)))
          have HO0 := Lib.hid h1
          clear h1
          by_cases h2 : a < s ∧ s < mid
          · obtain ⟨h2a, h2b⟩ := h2
            by_cases h3 : mid < e ∧ e < b
            · obtain ⟨h3a, h3b⟩ := h3
              go_wp2_with (first | fail | (go_at_call 90; have hpl : MPre lt n a s mid d := ⟨h2a, h2b, q2, HV1.out.s1, HV1.out.s2⟩; ((with_reducible refine (HI.out d _ a s mid k1 HW.out HD.out hpl).mono ?_); rintro e' wb ⟨rfl, d2, hs2, z2, r2⟩; have HV2 := Lib.hid r2; obtain ⟨cb0, cb1⟩ := SW.box hs2 HL.out; clear hpl)) | (go_at_call 90; have hpr : MPre lt n mid e b d2 := ⟨h3a, h3b, bn, (SortedIn.cong HV1.out.s3 (fun k k1 k2 => HV2.out.stab.out k (by omega))), (SortedIn.cong HV1.out.s4 (fun k k1 k2 => HV2.out.stab.out k (by omega)))⟩; ((with_reducible refine (HI.out d2 _ mid e b k2 hs2 z2 hpr).mono ?_); rintro e' wc ⟨rfl, d3, hs3, z3, r3⟩; have HV3 := Lib.hid r3; clear hpr)))
              all_goals first
                | (go_end0; exact ⟨rfl, _, SW.ofAlloc hs3 HL.out, z3, merge_halves HSO.out (by omega) (by omega) HV1.out.st HV2.out HV3.out HV1.out.le⟩)
                | (exfalso; have hx := HR0.out; omega)
                | (exfalso; have hx := HL0.out; omega)
                | (exfalso; have hx := HO0.out; omega)
            · have HR0 := Lib.hid h3
              clear h3
              go_wp2_with (first | fail | (go_at_call 90; have hpl : MPre lt n a s mid d := ⟨h2a, h2b, q2, HV1.out.s1, HV1.out.s2⟩; ((with_reducible refine (HI.out d _ a s mid k1 HW.out HD.out hpl).mono ?_); rintro e' wb ⟨rfl, d2, hs2, z2, r2⟩; have HV2 := Lib.hid r2; obtain ⟨cb0, cb1⟩ := SW.box hs2 HL.out; clear hpl)))
              all_goals first
                | (go_end0; exact ⟨rfl, _, SW.ofAlloc hs2 HL.out, z2, merge_halves HSO.out (by omega) (by omega) HV1.out.st HV2.out (Merged.left (SortedIn.cong HV1.out.s3 (fun k k1 k2 => HV2.out.stab.out k (by omega))) (SortedIn.cong HV1.out.s4 (fun k k1 k2 => HV2.out.stab.out k (by omega))) (by omega) (by omega) HR0.out) HV1.out.le⟩)
                | (exfalso; have hx := HR0.out; omega)
                | (exfalso; have hx := HL0.out; omega)
                | (exfalso; have hx := HO0.out; omega)
          · have HL0 := Lib.hid h2
            clear h2
            by_cases h3 : mid < e ∧ e < b
            · obtain ⟨h3a, h3b⟩ := h3
              go_wp2_with (first | fail | (go_at_call 90; have hpr : MPre lt n mid e b d := ⟨h3a, h3b, bn, HV1.out.s3, HV1.out.s4⟩; ((with_reducible refine (HI.out d _ mid e b k2 HW.out HD.out hpr).mono ?_); rintro e' wc ⟨rfl, d3, hs3, z3, r3⟩; have HV3 := Lib.hid r3; clear hpr)))
              all_goals first
                | (go_end0; exact ⟨rfl, _, SW.ofAlloc hs3 HL.out, z3, merge_halves HSO.out (by omega) (by omega) HV1.out.st (Merged.left HV1.out.s1 HV1.out.s2 (by omega) (by omega) HL0.out) HV3.out HV1.out.le⟩)
                | (exfalso; have hx := HR0.out; omega)
                | (exfalso; have hx := HL0.out; omega)
                | (exfalso; have hx := HO0.out; omega)
            · have HR0 := Lib.hid h3
              clear h3
              go_wp2_with (first | fail)
              all_goals first
                | (go_end0; exact ⟨rfl, _, SW.ofAlloc HW.out HL.out, HD.out, merge_halves HSO.out (by omega) (by omega) HV1.out.st (Merged.left HV1.out.s1 HV1.out.s2 (by omega) (by omega) HL0.out) (Merged.left HV1.out.s3 HV1.out.s4 (by omega) (by omega) HR0.out) HV1.out.le⟩)
                | (exfalso; have hx := HR0.out; omega)
                | (exfalso; have hx := HL0.out; omega)
                | (exfalso; have hx := HO0.out; omega)
end Go.Proofs.Ytkpmbkkhdhjbnaa
