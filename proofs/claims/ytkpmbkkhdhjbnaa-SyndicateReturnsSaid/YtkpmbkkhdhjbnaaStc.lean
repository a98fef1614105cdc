/- The library's stable sort over 'less' and 'swap': the merge in place. -/
import Derived.Test.YtkpmbkkhdhjbnaaSta
namespace Go.Proofs.Ytkpmbkkhdhjbnaa
open Go.ChangeShapes Go.WideShapes Go.ChangeAt Go.RowKit Go.Lott
open Go.Shelf Go.Lib Go.Sort Go.Lott.Stb
variable {α : Type} [Inhabited α]
set_option linter.unusedSectionVars false
variable {enc : α → Value} {lt : α → α → Bool} {g : Nat} {lb : Array Value} {sf : Nat} {sb : Array Value} {blk off n : Nat}

/-- What is asked of a merge. -/
structure MPre (lt : α → α → Bool) (n a m b : Nat) (d : Array α) : Prop where
  am : a < m
  mb : m < b
  bn : b ≤ n
  sl : SortedIn lt a m d
  sr : SortedIn lt m b d
set_option maxHeartbeats 4000000 in
set_option maxRecDepth 100000 in
/-- One element ahead: it goes to its place. -/
theorem symM_one (hS : SWO lt) {w : World} {d : Array α} (E : SEnv enc lt g lb sf sb blk off n w) (hH : Holds enc w blk off d) (hd : d.size = n) (a b : Nat) (M : MPre lt n a (a + 1) b d) :
    Calls Try.prog 90 #[.agg #[.func (.func g) #[] lb, .func (.func sf) #[] sb], .int .i64 a, .int .i64 ((a + 1 : Nat) : Int), .int .i64 b] w (SPost enc blk off n w (fun d' => Merged lt a b d d')) := by
  obtain ⟨E1, S1⟩ := E.box (.cells #[.func (.func g) #[] lb, .func (.func sf) #[] sb] 84) hH hd
  have hn := E.size
  have hlt := E.lt
  have HE := Lib.hid E1
  have HS := Lib.hid S1
  have HL := Lib.hid E.lt
  have hsw := Lib.hid E1.swap
  have eg := E1.eg
  have HD := Lib.hid hd
  have HM := Lib.hid M
  have mb := M.mb
  have bn := M.bn
  have HSO := Lib.hid hS
  clear E1 S1 hH hd hS
  have e1 : ((a + 1 : Nat) : Int) = (a : Int) + 1 := by omega
  rw [e1]
  clear e1
  have c1 : ((a : Int) + 1 - (a : Int) == 1) = true := by rw [beq_iff_eq]; omega
  go_enter Try.func90, Try.ntmps90
  go_wp2
  go_loopw [8, 9] (fun vi vj wr => ∃ (i j : Nat), vi = .int .i64 i ∧ vj = .int .i64 j ∧ a + 1 ≤ i ∧ i ≤ j ∧ j ≤ b ∧ SW enc (w.alloc (.cells #[.func (.func g) #[] lb, .func (.func sf) #[] sb] 84)) blk off d wr ∧
    (a + 1 < i → lt d[i - 1]! d[a]! = true) ∧ (j < b → lt d[j]! d[a]! = false)) (fun vi vj _ => (intOf vj).toNat - (intOf vi).toNat)
  case atStart => exact ⟨a + 1, b, by go_num, rfl, by omega, by omega, by omega, HS.out, fun h => by omega, fun h => by omega⟩
  case round =>
    obtain ⟨i, j, rfl, rfl, i1, ij, jb, hS, hp, hq⟩ := hrel
    obtain ⟨b0, b1⟩ := SW.box hS HL.out
    have HW := Lib.hid hS
    have HP := Lib.hid hp
    have HQ := Lib.hid hq
    clear hS hp hq
    by_cases hij : i < j
    · obtain ⟨h, hh⟩ : ∃ h : Nat, h = (i + j) / 2 := ⟨_, rfl⟩
      have h1 : i ≤ h := by omega
      have h2 : h < j := by omega
      have hl := HW.out.less HE.out.less HD.out h a (by omega) (by omega)
      have eh : ((i : Int) + (j : Int)) / 2 = (h : Int) := by omega
      have HH := Lib.hid hh
      clear hh
      cases hlv : lt d[h]! d[a]! with
      | true =>
        rw [hlv] at hl
        have HC := Lib.hid hl
        have HV := Lib.hid hlv
        clear hl hlv
        go_wp2_with (go_at_fn g; refine HC.out.mono ?_; rintro e w' ⟨rfl, q, rfl⟩)
        go_roundw
        case rel => exact ⟨h + 1, j, by go_num, rfl, by omega, by omega, jb, HW.out.drewN q, fun _ => HV.out, HQ.out⟩
        case measure => simp [intOf]; omega
      | false =>
        rw [hlv] at hl
        have HC := Lib.hid hl
        have HV := Lib.hid hlv
        clear hl hlv
        go_wp2_with (go_at_fn g; refine HC.out.mono ?_; rintro e w' ⟨rfl, q, rfl⟩)
        go_roundw
        case rel => exact ⟨i, h, rfl, rfl, i1, by omega, by omega, HW.out.drewN q, HP.out, fun _ => HV.out⟩
        case measure => simp [intOf]; omega
    · obtain rfl : i = j := by omega
      go_wp2
      go_loopw [11] (fun vk wk => ∃ (k : Nat) (dk : Array α), vk = .int .i64 k ∧ a ≤ k ∧ k + 1 ≤ i ∧ SW enc (w.alloc (.cells #[.func (.func g) #[] lb, .func (.func sf) #[] sb] 84)) blk off dk wk ∧ dk.size = n ∧ RotAt a (a + 1) (k + 1) d dk) (fun vk _ => i - (intOf vk).toNat)
      case atStart => exact ⟨a, d, rfl, by omega, by omega, HW.out, HD.out, RotAt.none a (a + 1) (a + 1) d (Or.inr ⟨rfl, by omega⟩)⟩
      case round =>
        obtain ⟨k, dk, rfl, k1, k2, hS, hz, hR⟩ := hrel
        obtain ⟨b2, b3⟩ := SW.box hS HL.out
        have HZ := Lib.hid hz
        have HR := Lib.hid hR
        have HK := Lib.hid hS
        clear hS hz hR
        by_cases hk : k + 1 < i
        · have hs := hsw.out _ dk (HE.out.holds HK.out HZ.out) HZ.out k (k + 1) (by omega) (by omega)
          rw [show ((k + 1 : Nat) : Int) = (k : Int) + 1 by omega] at hs
          have HSS := Lib.hid hs
          clear hs
          go_wp2
          rw [HSS.out, Oper.upon_value]
          go_wp2
          go_roundw
          case rel => exact ⟨k + 1, swp dk k (k + 1), by go_num, by omega, by omega, HK.out.swap HE.out.lt k (k + 1) (by rw [HZ.out]; omega) (by rw [HZ.out]; omega), by rw [size_swp]; exact HZ.out, rot_up HR.out k1 (by rw [HD.out]; omega)⟩
          case measure => simp [intOf]; omega
        · obtain rfl : i = k + 1 := by omega
          have e2 : ((k + 1 : Nat) : Int) - 1 = (k : Int) := by omega
          go_wp2
          go_end0
          exact ⟨rfl, dk, SW.ofAlloc HK.out HL.out, HZ.out, merge_one HSO.out (by omega) jb HM.out.sr HP.out HQ.out HR.out⟩
set_option maxHeartbeats 4000000 in
set_option maxRecDepth 100000 in
/-- One element behind: it goes to its place. -/
theorem symM_last (hS : SWO lt) {w : World} {d : Array α} (E : SEnv enc lt g lb sf sb blk off n w) (hH : Holds enc w blk off d) (hd : d.size = n) (a m : Nat) (h2 : a + 2 ≤ m) (M : MPre lt n a m (m + 1) d) :
    Calls Try.prog 90 #[.agg #[.func (.func g) #[] lb, .func (.func sf) #[] sb], .int .i64 a, .int .i64 m, .int .i64 ((m + 1 : Nat) : Int)] w (SPost enc blk off n w (fun d' => Merged lt a (m + 1) d d')) := by
  obtain ⟨E1, S1⟩ := E.box (.cells #[.func (.func g) #[] lb, .func (.func sf) #[] sb] 84) hH hd
  have hn := E.size
  have hlt := E.lt
  have HE := Lib.hid E1
  have HS := Lib.hid S1
  have HL := Lib.hid E.lt
  have hsw := Lib.hid E1.swap
  have eg := E1.eg
  have HD := Lib.hid hd
  have HM := Lib.hid M
  have bn := M.bn
  have HSO := Lib.hid hS
  clear E1 S1 hH hd hS
  have e1 : ((m + 1 : Nat) : Int) = (m : Int) + 1 := by omega
  rw [e1]
  clear e1
  have c0 : ((m : Int) - (a : Int) == 1) = false := by rw [beq_eq_false_iff_ne]; omega
  have c1 : ((m : Int) + 1 - (m : Int) == 1) = true := by rw [beq_iff_eq]; omega
  go_enter Try.func90, Try.ntmps90
  go_wp2
  go_loopw [12, 13] (fun vi vj wr => ∃ (i j : Nat), vi = .int .i64 i ∧ vj = .int .i64 j ∧ a ≤ i ∧ i ≤ j ∧ j ≤ m ∧ SW enc (w.alloc (.cells #[.func (.func g) #[] lb, .func (.func sf) #[] sb] 84)) blk off d wr ∧
    (a < i → lt d[m]! d[i - 1]! = false) ∧ (j < m → lt d[m]! d[j]! = true)) (fun vi vj _ => (intOf vj).toNat - (intOf vi).toNat)
  case atStart => exact ⟨a, m, rfl, rfl, by omega, by omega, by omega, HS.out, fun h => by omega, fun h => by omega⟩
  case round =>
    obtain ⟨i, j, rfl, rfl, i1, ij, jb, hS, hp, hq⟩ := hrel
    obtain ⟨b0, b1⟩ := SW.box hS HL.out
    have HW := Lib.hid hS
    have HP := Lib.hid hp
    have HQ := Lib.hid hq
    clear hS hp hq
    by_cases hij : i < j
    · obtain ⟨h, hh⟩ : ∃ h : Nat, h = (i + j) / 2 := ⟨_, rfl⟩
      have h1 : i ≤ h := by omega
      have h2 : h < j := by omega
      have hl := HW.out.less HE.out.less HD.out m h (by omega) (by omega)
      have eh : ((i : Int) + (j : Int)) / 2 = (h : Int) := by omega
      have HH := Lib.hid hh
      clear hh
      cases hlv : lt d[m]! d[h]! with
      | false =>
        rw [hlv] at hl
        have HC := Lib.hid hl
        have HV := Lib.hid hlv
        clear hl hlv
        go_wp2_with (go_at_fn g; refine HC.out.mono ?_; rintro e w' ⟨rfl, q, rfl⟩)
        go_roundw
        case rel => exact ⟨h + 1, j, by go_num, rfl, by omega, by omega, jb, HW.out.drewN q, fun _ => HV.out, HQ.out⟩
        case measure => simp [intOf]; omega
      | true =>
        rw [hlv] at hl
        have HC := Lib.hid hl
        have HV := Lib.hid hlv
        clear hl hlv
        go_wp2_with (go_at_fn g; refine HC.out.mono ?_; rintro e w' ⟨rfl, q, rfl⟩)
        go_roundw
        case rel => exact ⟨i, h, rfl, rfl, i1, by omega, by omega, HW.out.drewN q, HP.out, fun _ => HV.out⟩
        case measure => simp [intOf]; omega
    · obtain rfl : i = j := by omega
      go_wp2
      go_loopw [15] (fun vk wk => ∃ (k : Nat) (dk : Array α), vk = .int .i64 k ∧ i ≤ k ∧ k ≤ m ∧ SW enc (w.alloc (.cells #[.func (.func g) #[] lb, .func (.func sf) #[] sb] 84)) blk off dk wk ∧ dk.size = n ∧ RotAt k m (m + 1) d dk) (fun vk _ => (intOf vk).toNat - i)
      case atStart => exact ⟨m, d, rfl, by omega, by omega, HW.out, HD.out, RotAt.none m m (m + 1) d (Or.inl ⟨rfl, by omega⟩)⟩
      case round =>
        obtain ⟨k, dk, rfl, k1, k2, hS, hz, hR⟩ := hrel
        obtain ⟨b2, b3⟩ := SW.box hS HL.out
        have HZ := Lib.hid hz
        have HR := Lib.hid hR
        have HK := Lib.hid hS
        clear hS hz hR
        by_cases hk : i < k
        · obtain ⟨k', rfl⟩ : ∃ k', k = k' + 1 := ⟨k - 1, by omega⟩
          have hs := hsw.out _ dk (HE.out.holds HK.out HZ.out) HZ.out (k' + 1) k' (by omega) (by omega)
          have e2 : ((k' + 1 : Nat) : Int) = (k' : Int) + 1 := by omega
          have e3 : (k' : Int) + 1 - 1 = (k' : Int) := by omega
          rw [e2] at hs
          have HSS := Lib.hid hs
          clear hs
          rw [e2]
          clear e2
          go_wp2
          rw [HSS.out, Oper.upon_value]
          go_wp2
          go_roundw
          case rel => exact ⟨k', swp dk (k' + 1) k', by go_num, by omega, by omega, HK.out.swap HE.out.lt (k' + 1) k' (by rw [HZ.out]; omega) (by rw [HZ.out]; omega), by rw [size_swp]; exact HZ.out, rot_down HR.out (by omega) (by rw [HD.out]; omega)⟩
          case measure => simp [intOf]; omega
        · obtain rfl : i = k := by omega
          go_wp2
          go_end0
          exact ⟨rfl, dk, SW.ofAlloc HK.out HL.out, HZ.out, merge_last HSO.out i1 jb HM.out.sl HP.out HQ.out HR.out⟩
end Go.Proofs.Ytkpmbkkhdhjbnaa
