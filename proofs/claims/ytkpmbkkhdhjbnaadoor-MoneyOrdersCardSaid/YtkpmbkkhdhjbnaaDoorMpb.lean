/- Parse of package money and of its reference. -/
import Derived.Test.YtkpmbkkhdhjbnaaDoorMpa
import Derived.Test.YtkpmbkkhdhjbnaaDoorRows
import Derived.Test.YtkpmbkkhdhjbnaaDoorKit
import Derived.IntWalk
namespace Go.Proofs.YtkpmbkkhdhjbnaaDoor
open Go.ChangeShapes Go.WideShapes Go.ChangeAt Go.RowKit Go.Lott
open Go.Lott.Mny
theorem mbl (s : ByteArray) (k : Nat) (h : k < s.size) : Num.bl s.data.toList k = (s[k].toNat : Int) := by
  unfold Num.bl
  rw [List.getD_eq_getElem?_getD, List.getElem?_eq_getElem (by simpa using h)]; rfl
theorem mlen (s : ByteArray) : s.data.toList.length = s.size := by simp
theorem mf_short {s : ByteArray} (h : s.size < 4) : mfB s.data.toList = false := mf_no fun c => by
  have := c.1.1; rw [mlen] at this; omega
/-- What is known of a text whose form is asked: its point; the digits of its first k bytes. -/
structure Pt (s : ByteArray) (p : Nat) : Prop where
  z : s.size = p + 3
  p1 : 1 ≤ p
  c : Num.bl s.data.toList p = 46
  l : Num.bl s.data.toList 0 = 48 → p = 1
def Dgs (s : ByteArray) (p k : Nat) : Prop := ∀ j, j < k → j ≠ p → 48 ≤ Num.bl s.data.toList j ∧ Num.bl s.data.toList j ≤ 57
theorem Dgs.zero (s : ByteArray) (p : Nat) : Dgs s p 0 := fun j hj => by omega
theorem Dgs.skip {s : ByteArray} {p : Nat} (h : Dgs s p p) : Dgs s p (p + 1) := fun j hj hn => h j (by omega) hn
theorem Dgs.next {s : ByteArray} {p k : Nat} (h : Dgs s p k) (hk : k < s.size) (h0 : 48 ≤ (s[k].toNat : Int)) (h1 : (s[k].toNat : Int) ≤ 57) : Dgs s p (k + 1) := fun j hj hn => by
  rcases Nat.lt_or_ge j k with c | c
  · exact h j c hn
  · obtain rfl : j = k := by omega
    rw [mbl s j hk]; exact ⟨h0, h1⟩
theorem mf_point {s : ByteArray} {p : Nat} (hz : s.size = p + 3) (h : p < s.size) (hc : (s[p].toNat : Int) ≠ 46) : mfB s.data.toList = false := mf_no fun c => by
  have := c.1.2.1; rw [mlen, show s.size - 3 = p by omega, mbl s p h] at this; exact hc this
theorem mf_lead {s : ByteArray} {p : Nat} (hz : s.size = p + 3) (h : 0 < s.size) (hc : (s[0].toNat : Int) = 48) (hp : p ≠ 1) : mfB s.data.toList = false := mf_no fun c => by
  have := c.1.2.2 (by rw [mbl s 0 h]; exact hc); rw [mlen] at this; omega
theorem mf_bad {s : ByteArray} {p k : Nat} (hz : s.size = p + 3) (h : k < s.size) (hk : k ≠ p) (hc : ¬ (48 ≤ (s[k].toNat : Int) ∧ (s[k].toNat : Int) ≤ 57)) : mfB s.data.toList = false := mf_no fun c => by
  have := c.2 k (by rw [mlen]; exact h) (by rw [mlen]; omega); rw [mbl s k h] at this; exact hc this
theorem Pt.yes {s : ByteArray} {p : Nat} (h : Pt s p) (hd : Dgs s p s.size) : mfB s.data.toList = true := by
  have hz := h.z; have hp := h.p1
  rw [mfB_iff, mlen, show s.size - 3 = p by omega]
  exact ⟨⟨by omega, h.c, fun c => by rw [h.l c] at hz; exact hz⟩, fun k hk hn => hd k hk hn⟩
theorem Pt.of {s : ByteArray} (h : mfB s.data.toList = true) : ∃ p, Pt s p ∧ Dgs s p s.size := by
  obtain ⟨⟨h1, h2, h3⟩, h4⟩ := (mfB_iff _).1 h
  rw [mlen] at h1 h2 h3 h4
  exact ⟨s.size - 3, ⟨by omega, by omega, h2, fun c => by have := h3 c; omega⟩, h4⟩
/-- The value of the first k bytes. -/
theorem mv_next {s : ByteArray} {p k : Nat} (hk : k < s.size) (hn : k ≠ p) : mv s.data.toList p (k + 1) = mv s.data.toList p k * 10 + ((s[k].toNat : Int) - 48) := by rw [mv_ne hn, mbl s k hk]
theorem mp_over' {s : ByteArray} {p k : Nat} (h : Pt s p) (hd : Dgs s p s.size) (hk : k < s.size) (hn : k ≠ p) (hv : 1000000000000 < mv s.data.toList p k * 10 + ((s[k].toNat : Int) - 48)) : 0 = mpN s.data.toList ∧ 9 = mpE s.data.toList := by
  rw [← mv_next hk hn] at hv
  have e : s.data.toList.length - 3 = p := by rw [mlen, h.z]; omega
  exact mp_over (h.yes hd) (k := k + 1) (by rw [mlen]; omega) (by rw [e]; exact hv)
theorem mp_fine' {s : ByteArray} {p : Nat} (h : Pt s p) (hd : Dgs s p s.size) (hv : mv s.data.toList p s.size ≤ 1000000000000) : mv s.data.toList p s.size = mpN s.data.toList ∧ 0 = mpE s.data.toList := by
  have e : s.data.toList.length - 3 = p := by rw [mlen, h.z]; omega
  have := mp_fine (h.yes hd) (by rw [e, mlen]; exact hv)
  rw [e, mlen] at this; exact this
set_option maxHeartbeats 2000000 in
theorem mParse_any (s : ByteArray) (w : World) (hs : s.size ≤ 1000000000000) : Calls Tryd.prog 17 #[.string s] w (RetS (.tuple #[.int .i64 (mpN s.data.toList), .int .i64 (mpE s.data.toList)]) w) := by
  by_cases h4 : s.size < 4
  · have HV := Lib.hid (mp_bad (mf_short h4))
    have h1 : (s.size : Int) - 3 < 1 := by omega
    go_enter Tryd.func17, Tryd.ntmps17
    go_wp2
    go_ret2
    exact ⟨ret_two HV.out.1 HV.out.2, rfl⟩
  · obtain ⟨p, hz⟩ : ∃ p, s.size = p + 3 := ⟨s.size - 3, by omega⟩
    have hpe : (s.size : Int) - 3 = (p : Int) := by omega
    have p1 : 1 ≤ p := by omega
    have hps : p < s.size := by omega
    have hps' : (p : Int) < (s.size : Int) := by omega
    have h00 : 0 < s.size := by omega
    have h0s : (0 : Int) < (s.size : Int) := by omega
    have p1' : (1 : Int) ≤ (p : Int) := by omega
    have HZ := Lib.hid hz
    clear hz h4
    by_cases hc : (s[p].toNat : Int) = 46
    · have t0 : ((s[p].toNat : Int) != 46) = false := by rw [bne_eq_false_iff_eq]; exact hc
      by_cases hl : (s[0].toNat : Int) = 48
      · have t2 : ((s[0].toNat : Int) == 48) = true := by rw [beq_iff_eq]; exact hl
        by_cases hp : p = 1
        · have HPT := Lib.hid (show Pt s p from ⟨HZ.out, p1, by rw [mbl s p hps]; exact hc, fun _ => hp⟩)
          have t3 : (p : Int) ≤ 1 := by omega
          have t4 : decide ((1 : Int) < (p : Int)) = false := decide_eq_false (by omega)
          clear hc hl hp
          go_enter Tryd.func17, Tryd.ntmps17
          go_wp2
          go_loop [30] (fun i => ∃ k : Nat, k ≤ s.size ∧ i = .int .i64 k ∧ Dgs s p k) (fun i => s.size - (intOf i).toNat)
          case atStart => exact ⟨0, by omega, rfl, Dgs.zero s p⟩
          case round =>
            obtain ⟨k, hk, rfl, hd⟩ := hrel
            have HD := Lib.hid hd
            clear hd
            by_cases hlt : k < s.size
            · have hlt' : (k : Int) < (s.size : Int) := by omega
              by_cases hkp : k = p
              · subst hkp
                have t1 : ((k : Int) != (k : Int)) = false := by simp
                go_wp2
                go_round
                case rel => exact ⟨k + 1, by omega, by go_num, HD.out.skip⟩
                case measure => simp [intOf]; omega
              · have t1 : ((k : Int) != (p : Int)) = true := by rw [bne_iff_ne]; omega
                by_cases hdg : 48 ≤ (s[k].toNat : Int) ∧ (s[k].toNat : Int) ≤ 57
                · have HN := Lib.hid (HD.out.next hlt hdg.1 hdg.2)
                  have d1 : decide ((s[k].toNat : Int) < 48) = false := decide_eq_false (by omega)
                  have d2 : decide ((57 : Int) < (s[k].toNat : Int)) = false := decide_eq_false (by omega)
                  clear hdg hkp
                  go_wp2
                  go_round
                  case rel => exact ⟨k + 1, by omega, by go_num, HN.out⟩
                  case measure => simp [intOf]; omega
                · have HV := Lib.hid (mp_bad (mf_bad HZ.out hlt hkp hdg))
                  clear hkp
                  by_cases c1 : (s[k].toNat : Int) < 48
                  · have d1 : decide ((s[k].toNat : Int) < 48) = true := decide_eq_true c1
                    clear hdg
                    go_wp2
                    go_ret2
                    exact ⟨ret_two HV.out.1 HV.out.2, rfl⟩
                  · have d1 : decide ((s[k].toNat : Int) < 48) = false := decide_eq_false c1
                    have d2 : decide ((57 : Int) < (s[k].toNat : Int)) = true := decide_eq_true (by omega)
                    clear hdg c1
                    go_wp2
                    go_ret2
                    exact ⟨ret_two HV.out.1 HV.out.2, rfl⟩
            · obtain rfl : k = s.size := by omega
              have HDG := HD
              go_wp2
              go_loop [6, 51] (fun v i => ∃ k : Nat, k ≤ s.size ∧ v = .int .i64 (mv s.data.toList p k) ∧ i = .int .i64 k ∧ 0 ≤ mv s.data.toList p k ∧ mv s.data.toList p k ≤ 1000000000000) (fun _ i => s.size - (intOf i).toNat)
              case atStart => exact ⟨0, by omega, rfl, rfl, by simp [mv], by simp [mv]⟩
              case round =>
                obtain ⟨k, hk, rfl, rfl, v0, v1⟩ := hrel
                by_cases hlt : k < s.size
                · have hlt' : (k : Int) < (s.size : Int) := by omega
                  by_cases hkp : k = p
                  · subst hkp
                    have t1 : ((k : Int) == (k : Int)) = true := by simp
                    have HA := Lib.hid (mv_at s.data.toList k)
                    go_wp2
                    go_round
                    case rel => exact ⟨k + 1, by omega, by rw [HA.out], by go_num, by rw [HA.out]; exact v0, by rw [HA.out]; exact v1⟩
                    case measure => simp [intOf]; omega
                  · obtain ⟨b0, b1⟩ := HDG.out k hlt hkp
                    rw [mbl s k hlt] at b0 b1
                    have HKP := Lib.hid hkp
                    have t1 : ((k : Int) == (p : Int)) = false := by rw [beq_eq_false_iff_ne]; omega
                    by_cases hbig : 1000000000000 < mv s.data.toList p k * 10 + ((s[k].toNat : Int) - 48)
                    · have HV := Lib.hid (mp_over' HPT.out HDG.out hlt hkp hbig)
                      clear hkp
                      go_wp2
                      all_goals first
                        | (go_ret2; exact ⟨ret_two HV.out.1 HV.out.2, rfl⟩)
                        | (exfalso; omega)
                    · have HN := Lib.hid (mv_next hlt hkp)
                      clear hkp
                      go_wp2
                      all_goals first
                        | (exfalso; omega)
                        | (go_round
                           case rel => exact ⟨k + 1, by omega, by rw [HN.out] <;> (congr 1; omega), by go_num, by rw [HN.out]; omega, by rw [HN.out]; omega⟩
                           case measure => simp [intOf]; omega)
                · obtain rfl : k = s.size := by omega
                  have HV := Lib.hid (mp_fine' HPT.out HDG.out v1)
                  go_wp2
                  go_ret2
                  exact ⟨ret_two HV.out.1 HV.out.2, rfl⟩
        · have HV := Lib.hid (mp_bad (mf_lead HZ.out h00 hl hp))
          have t3 : (1 : Int) < (p : Int) := by omega
          have t4 : decide ((1 : Int) < (p : Int)) = true := decide_eq_true (by omega)
          clear hc hl hp
          go_enter Tryd.func17, Tryd.ntmps17
          go_wp2
          go_ret2
          exact ⟨ret_two HV.out.1 HV.out.2, rfl⟩
      · have t2 : ((s[0].toNat : Int) == 48) = false := by rw [beq_eq_false_iff_ne]; exact hl
        have HPT := Lib.hid (show Pt s p from ⟨HZ.out, p1, by rw [mbl s p hps]; exact hc, fun c => by rw [mbl s 0 h00] at c; exact absurd c hl⟩)
        clear hc hl
        go_enter Tryd.func17, Tryd.ntmps17
        go_wp2
        go_loop [30] (fun i => ∃ k : Nat, k ≤ s.size ∧ i = .int .i64 k ∧ Dgs s p k) (fun i => s.size - (intOf i).toNat)
        case atStart => exact ⟨0, by omega, rfl, Dgs.zero s p⟩
        case round =>
          obtain ⟨k, hk, rfl, hd⟩ := hrel
          have HD := Lib.hid hd
          clear hd
          by_cases hlt : k < s.size
          · have hlt' : (k : Int) < (s.size : Int) := by omega
            by_cases hkp : k = p
            · subst hkp
              have t1 : ((k : Int) != (k : Int)) = false := by simp
              go_wp2
              go_round
              case rel => exact ⟨k + 1, by omega, by go_num, HD.out.skip⟩
              case measure => simp [intOf]; omega
            · have t1 : ((k : Int) != (p : Int)) = true := by rw [bne_iff_ne]; omega
              by_cases hdg : 48 ≤ (s[k].toNat : Int) ∧ (s[k].toNat : Int) ≤ 57
              · have HN := Lib.hid (HD.out.next hlt hdg.1 hdg.2)
                have d1 : decide ((s[k].toNat : Int) < 48) = false := decide_eq_false (by omega)
                have d2 : decide ((57 : Int) < (s[k].toNat : Int)) = false := decide_eq_false (by omega)
                clear hdg hkp
                go_wp2
                go_round
                case rel => exact ⟨k + 1, by omega, by go_num, HN.out⟩
                case measure => simp [intOf]; omega
              · have HV := Lib.hid (mp_bad (mf_bad HZ.out hlt hkp hdg))
                clear hkp
                by_cases c1 : (s[k].toNat : Int) < 48
                · have d1 : decide ((s[k].toNat : Int) < 48) = true := decide_eq_true c1
                  clear hdg
                  go_wp2
                  go_ret2
                  exact ⟨ret_two HV.out.1 HV.out.2, rfl⟩
                · have d1 : decide ((s[k].toNat : Int) < 48) = false := decide_eq_false c1
                  have d2 : decide ((57 : Int) < (s[k].toNat : Int)) = true := decide_eq_true (by omega)
                  clear hdg c1
                  go_wp2
                  go_ret2
                  exact ⟨ret_two HV.out.1 HV.out.2, rfl⟩
          · obtain rfl : k = s.size := by omega
            have HDG := HD
            go_wp2
            go_loop [6, 51] (fun v i => ∃ k : Nat, k ≤ s.size ∧ v = .int .i64 (mv s.data.toList p k) ∧ i = .int .i64 k ∧ 0 ≤ mv s.data.toList p k ∧ mv s.data.toList p k ≤ 1000000000000) (fun _ i => s.size - (intOf i).toNat)
            case atStart => exact ⟨0, by omega, rfl, rfl, by simp [mv], by simp [mv]⟩
            case round =>
              obtain ⟨k, hk, rfl, rfl, v0, v1⟩ := hrel
              by_cases hlt : k < s.size
              · have hlt' : (k : Int) < (s.size : Int) := by omega
                by_cases hkp : k = p
                · subst hkp
                  have t1 : ((k : Int) == (k : Int)) = true := by simp
                  have HA := Lib.hid (mv_at s.data.toList k)
                  go_wp2
                  go_round
                  case rel => exact ⟨k + 1, by omega, by rw [HA.out], by go_num, by rw [HA.out]; exact v0, by rw [HA.out]; exact v1⟩
                  case measure => simp [intOf]; omega
                · obtain ⟨b0, b1⟩ := HDG.out k hlt hkp
                  rw [mbl s k hlt] at b0 b1
                  have HKP := Lib.hid hkp
                  have t1 : ((k : Int) == (p : Int)) = false := by rw [beq_eq_false_iff_ne]; omega
                  by_cases hbig : 1000000000000 < mv s.data.toList p k * 10 + ((s[k].toNat : Int) - 48)
                  · have HV := Lib.hid (mp_over' HPT.out HDG.out hlt hkp hbig)
                    clear hkp
                    go_wp2
                    all_goals first
                      | (go_ret2; exact ⟨ret_two HV.out.1 HV.out.2, rfl⟩)
                      | (exfalso; omega)
                  · have HN := Lib.hid (mv_next hlt hkp)
                    clear hkp
                    go_wp2
                    all_goals first
                      | (exfalso; omega)
                      | (go_round
                         case rel => exact ⟨k + 1, by omega, by rw [HN.out] <;> (congr 1; omega), by go_num, by rw [HN.out]; omega, by rw [HN.out]; omega⟩
                         case measure => simp [intOf]; omega)
              · obtain rfl : k = s.size := by omega
                have HV := Lib.hid (mp_fine' HPT.out HDG.out v1)
                go_wp2
                go_ret2
                exact ⟨ret_two HV.out.1 HV.out.2, rfl⟩
    · have t0 : ((s[p].toNat : Int) != 46) = true := by rw [bne_iff_ne]; exact hc
      have HV := Lib.hid (mp_bad (mf_point HZ.out hps hc))
      clear hc
      go_enter Tryd.func17, Tryd.ntmps17
      go_wp2
      go_ret2
      exact ⟨ret_two HV.out.1 HV.out.2, rfl⟩
def dgI (c : Int) : Bool := decide (48 ≤ c ∧ c ≤ 57)
theorem rmDigit_any (c : Int) (w : World) : Calls Tryd.prog 49 #[.int .u8 c] w (RetS (.bool (dgI c)) w) := by
  by_cases h : 48 ≤ c
  · go_enter Tryd.func49, Tryd.ntmps49
    go_wp2
    go_ret
    exact ⟨ret_bool (by simp [dgI, h]), rfl⟩
  · go_enter Tryd.func49, Tryd.ntmps49
    go_wp2
    go_ret
    exact ⟨ret_bool (by rw [dgI, decide_eq_false (by omega)]), rfl⟩
theorem dgI_yes {c : Int} (h : 48 ≤ c ∧ c ≤ 57) : dgI c = true := decide_eq_true h
theorem dgI_no {c : Int} (h : ¬ (48 ≤ c ∧ c ≤ 57)) : dgI c = false := decide_eq_false h
theorem Dgs.last {s : ByteArray} {p : Nat} (hz : s.size = p + 3) (h : Dgs s p p) (h1 : p + 1 < s.size) (h2 : p + 2 < s.size) (d1 : 48 ≤ (s[p + 1].toNat : Int) ∧ (s[p + 1].toNat : Int) ≤ 57) (d2 : 48 ≤ (s[p + 2].toNat : Int) ∧ (s[p + 2].toNat : Int) ≤ 57) : Dgs s p s.size := fun j hj hn => by
  rcases Nat.lt_or_ge j p with c | c
  · exact h j c hn
  · rcases (show j = p + 1 ∨ j = p + 2 by omega) with rfl | rfl
    · rw [mbl s _ h1]; exact d1
    · rw [mbl s _ h2]; exact d2
set_option maxHeartbeats 2000000 in
theorem rmForm_any (s : ByteArray) (w : World) (hs : s.size ≤ 1000000000000) : Calls Tryd.prog 39 #[.string s] w (RetS (.bool (mfB s.data.toList)) w) := by
  by_cases h4 : s.size < 4
  · have h1 : (s.size : Int) - 3 < 1 := by omega
    have HV := Lib.hid (mf_short h4)
    go_enter Tryd.func39, Tryd.ntmps39
    go_wp2_with (go_at_call 49; ((with_reducible refine (rmDigit_any _ _).mono ?_); rintro e w' ⟨rfl, rfl⟩))
    go_ret
    exact ⟨ret_bool HV.out.symm, rfl⟩
  · obtain ⟨p, hz⟩ : ∃ p, s.size = p + 3 := ⟨s.size - 3, by omega⟩
    have hpe : (s.size : Int) - 3 = (p : Int) := by omega
    have p1 : 1 ≤ p := by omega
    have hps : p < s.size := by omega
    have hps' : (p : Int) < (s.size : Int) := by omega
    have hq1 : p + 1 < s.size := by omega
    have hq2 : p + 2 < s.size := by omega
    have hq1' : (p : Int) + 1 < (s.size : Int) := by omega
    have hq2' : (p : Int) + 2 < (s.size : Int) := by omega
    have h00 : 0 < s.size := by omega
    have h0s : (0 : Int) < (s.size : Int) := by omega
    have p1' : (1 : Int) ≤ (p : Int) := by omega
    have n1 : ((p : Int) + 1).toNat = p + 1 := by omega
    have n2 : ((p : Int) + 2).toNat = p + 2 := by omega
    have HZ := Lib.hid hz
    clear hz h4
    by_cases hc : (s[p].toNat : Int) = 46
    · have t0 : ((s[p].toNat : Int) != 46) = false := by rw [bne_eq_false_iff_eq]; exact hc
      by_cases hg1 : 48 ≤ (s[p + 1].toNat : Int) ∧ (s[p + 1].toNat : Int) ≤ 57
      · have d1 := dgI_yes hg1
        by_cases hg2 : 48 ≤ (s[p + 2].toNat : Int) ∧ (s[p + 2].toNat : Int) ≤ 57
        · have d2 := dgI_yes hg2
          have HG1 := Lib.hid hg1
          have HG2 := Lib.hid hg2
          by_cases hl : (s[0].toNat : Int) = 48
          · have t2 : ((s[0].toNat : Int) == 48) = true := by rw [beq_iff_eq]; exact hl
            by_cases hp : p = 1
            · have HPT := Lib.hid (show Pt s p from ⟨HZ.out, p1, by rw [mbl s p hps]; exact hc, fun _ => hp⟩)
              have t3 : (p : Int) ≤ 1 := by omega
              have t4 : decide ((1 : Int) < (p : Int)) = false := decide_eq_false (by omega)
              clear hc hl hp hg1 hg2
              go_enter Tryd.func39, Tryd.ntmps39
              go_wp2_with (go_at_call 49; ((with_reducible refine (rmDigit_any _ _).mono ?_); rintro e w' ⟨rfl, rfl⟩))
              go_loop [4] (fun i => ∃ k : Nat, k ≤ p ∧ i = .int .i64 k ∧ Dgs s p k) (fun i => p - (intOf i).toNat)
              case atStart => exact ⟨0, by omega, rfl, Dgs.zero s p⟩
              case round =>
                obtain ⟨k, hk, rfl, hd⟩ := hrel
                have HD := Lib.hid hd
                clear hd
                by_cases hlt : k < p
                · have hlt' : (k : Int) < (p : Int) := by omega
                  have hks : k < s.size := by omega
                  have hks' : (k : Int) < (s.size : Int) := by omega
                  by_cases hdg : 48 ≤ (s[k].toNat : Int) ∧ (s[k].toNat : Int) ≤ 57
                  · have HN := Lib.hid (HD.out.next hks hdg.1 hdg.2)
                    have d1 := dgI_yes hdg
                    clear hdg
                    go_wp2_with (go_at_call 49; ((with_reducible refine (rmDigit_any _ _).mono ?_); rintro e w' ⟨rfl, rfl⟩))
                    go_round
                    case rel => exact ⟨k + 1, by omega, by go_num, HN.out⟩
                    case measure => simp [intOf]; omega
                  · have HV := Lib.hid (mf_bad HZ.out hks (by omega) hdg)
                    have d1 := dgI_no hdg
                    clear hdg
                    go_wp2_with (go_at_call 49; ((with_reducible refine (rmDigit_any _ _).mono ?_); rintro e w' ⟨rfl, rfl⟩))
                    go_ret
                    exact ⟨ret_bool HV.out.symm, rfl⟩
                · obtain rfl : k = p := by omega
                  have HV := Lib.hid (HPT.out.yes (HD.out.last HZ.out hq1 hq2 HG1.out HG2.out))
                  go_wp2
                  go_ret
                  exact ⟨ret_bool HV.out.symm, rfl⟩
            · have HV0 := Lib.hid (mf_lead HZ.out h00 hl hp)
              have t3 : (1 : Int) < (p : Int) := by omega
              have t4 : decide ((1 : Int) < (p : Int)) = true := decide_eq_true (by omega)
              clear hc hl hp hg1 hg2
              have HV := Lib.hid (HV0.out)
              go_enter Tryd.func39, Tryd.ntmps39
              go_wp2_with (go_at_call 49; ((with_reducible refine (rmDigit_any _ _).mono ?_); rintro e w' ⟨rfl, rfl⟩))
              go_ret
              exact ⟨ret_bool HV.out.symm, rfl⟩
          · have t2 : ((s[0].toNat : Int) == 48) = false := by rw [beq_eq_false_iff_ne]; exact hl
            have HPT := Lib.hid (show Pt s p from ⟨HZ.out, p1, by rw [mbl s p hps]; exact hc, fun c => by rw [mbl s 0 h00] at c; exact absurd c hl⟩)
            clear hc hl hg1 hg2
            by_cases t3 : (1 : Int) < (p : Int)
            · go_enter Tryd.func39, Tryd.ntmps39
              go_wp2_with (go_at_call 49; ((with_reducible refine (rmDigit_any _ _).mono ?_); rintro e w' ⟨rfl, rfl⟩))
              go_loop [4] (fun i => ∃ k : Nat, k ≤ p ∧ i = .int .i64 k ∧ Dgs s p k) (fun i => p - (intOf i).toNat)
              case atStart => exact ⟨0, by omega, rfl, Dgs.zero s p⟩
              case round =>
                obtain ⟨k, hk, rfl, hd⟩ := hrel
                have HD := Lib.hid hd
                clear hd
                by_cases hlt : k < p
                · have hlt' : (k : Int) < (p : Int) := by omega
                  have hks : k < s.size := by omega
                  have hks' : (k : Int) < (s.size : Int) := by omega
                  by_cases hdg : 48 ≤ (s[k].toNat : Int) ∧ (s[k].toNat : Int) ≤ 57
                  · have HN := Lib.hid (HD.out.next hks hdg.1 hdg.2)
                    have d1 := dgI_yes hdg
                    clear hdg
                    go_wp2_with (go_at_call 49; ((with_reducible refine (rmDigit_any _ _).mono ?_); rintro e w' ⟨rfl, rfl⟩))
                    go_round
                    case rel => exact ⟨k + 1, by omega, by go_num, HN.out⟩
                    case measure => simp [intOf]; omega
                  · have HV := Lib.hid (mf_bad HZ.out hks (by omega) hdg)
                    have d1 := dgI_no hdg
                    clear hdg
                    go_wp2_with (go_at_call 49; ((with_reducible refine (rmDigit_any _ _).mono ?_); rintro e w' ⟨rfl, rfl⟩))
                    go_ret
                    exact ⟨ret_bool HV.out.symm, rfl⟩
                · obtain rfl : k = p := by omega
                  have HV := Lib.hid (HPT.out.yes (HD.out.last HZ.out hq1 hq2 HG1.out HG2.out))
                  go_wp2
                  go_ret
                  exact ⟨ret_bool HV.out.symm, rfl⟩
            · replace t3 : (p : Int) ≤ 1 := by omega
              go_enter Tryd.func39, Tryd.ntmps39
              go_wp2_with (go_at_call 49; ((with_reducible refine (rmDigit_any _ _).mono ?_); rintro e w' ⟨rfl, rfl⟩))
              go_loop [4] (fun i => ∃ k : Nat, k ≤ p ∧ i = .int .i64 k ∧ Dgs s p k) (fun i => p - (intOf i).toNat)
              case atStart => exact ⟨0, by omega, rfl, Dgs.zero s p⟩
              case round =>
                obtain ⟨k, hk, rfl, hd⟩ := hrel
                have HD := Lib.hid hd
                clear hd
                by_cases hlt : k < p
                · have hlt' : (k : Int) < (p : Int) := by omega
                  have hks : k < s.size := by omega
                  have hks' : (k : Int) < (s.size : Int) := by omega
                  by_cases hdg : 48 ≤ (s[k].toNat : Int) ∧ (s[k].toNat : Int) ≤ 57
                  · have HN := Lib.hid (HD.out.next hks hdg.1 hdg.2)
                    have d1 := dgI_yes hdg
                    clear hdg
                    go_wp2_with (go_at_call 49; ((with_reducible refine (rmDigit_any _ _).mono ?_); rintro e w' ⟨rfl, rfl⟩))
                    go_round
                    case rel => exact ⟨k + 1, by omega, by go_num, HN.out⟩
                    case measure => simp [intOf]; omega
                  · have HV := Lib.hid (mf_bad HZ.out hks (by omega) hdg)
                    have d1 := dgI_no hdg
                    clear hdg
                    go_wp2_with (go_at_call 49; ((with_reducible refine (rmDigit_any _ _).mono ?_); rintro e w' ⟨rfl, rfl⟩))
                    go_ret
                    exact ⟨ret_bool HV.out.symm, rfl⟩
                · obtain rfl : k = p := by omega
                  have HV := Lib.hid (HPT.out.yes (HD.out.last HZ.out hq1 hq2 HG1.out HG2.out))
                  go_wp2
                  go_ret
                  exact ⟨ret_bool HV.out.symm, rfl⟩
        · have d2 := dgI_no hg2
          have HV0 := Lib.hid (mf_bad HZ.out hq2 (by omega) hg2)
          clear hc hg1 hg2
          have HV := Lib.hid (HV0.out)
          go_enter Tryd.func39, Tryd.ntmps39
          go_wp2_with (go_at_call 49; ((with_reducible refine (rmDigit_any _ _).mono ?_); rintro e w' ⟨rfl, rfl⟩))
          go_ret
          exact ⟨ret_bool HV.out.symm, rfl⟩
      · have d1 := dgI_no hg1
        have HV0 := Lib.hid (mf_bad HZ.out hq1 (by omega) hg1)
        clear hc hg1
        have HV := Lib.hid (HV0.out)
        go_enter Tryd.func39, Tryd.ntmps39
        go_wp2_with (go_at_call 49; ((with_reducible refine (rmDigit_any _ _).mono ?_); rintro e w' ⟨rfl, rfl⟩))
        go_ret
        exact ⟨ret_bool HV.out.symm, rfl⟩
    · have t0 : ((s[p].toNat : Int) != 46) = true := by rw [bne_iff_ne]; exact hc
      have HV0 := Lib.hid (mf_point HZ.out hps hc)
      clear hc
      have HV := Lib.hid (HV0.out)
      go_enter Tryd.func39, Tryd.ntmps39
      go_wp2_with (go_at_call 49; ((with_reducible refine (rmDigit_any _ _).mono ?_); rintro e w' ⟨rfl, rfl⟩))
      go_ret
      exact ⟨ret_bool HV.out.symm, rfl⟩
set_option maxHeartbeats 2000000 in
theorem rmParse_any (s : ByteArray) (w : World) (hs : s.size ≤ 1000000000000) : Calls Tryd.prog 18 #[.string s] w (RetS (.tuple #[.int .i64 (mpN s.data.toList), .int .i64 (mpE s.data.toList)]) w) := by
  have hf := fun w => rmForm_any s w hs
  by_cases hm : mfB s.data.toList = true
  · obtain ⟨p, hpt, hdg⟩ := Pt.of hm
    rw [hm] at hf
    have HF := Lib.hid hf
    have HPT := Lib.hid hpt
    have HDG := Lib.hid hdg
    have p1 := hpt.p1
    clear hf hm hpt hdg
    go_enter Tryd.func18, Tryd.ntmps18
    go_wp2_with (go_at_call 39; ((with_reducible refine (HF.out _).mono ?_); rintro e w' ⟨rfl, rfl⟩))
    go_loop [4, 5] (fun v i => ∃ k : Nat, k ≤ s.size ∧ v = .int .i64 (mv s.data.toList p k) ∧ i = .int .i64 k ∧ 0 ≤ mv s.data.toList p k ∧ mv s.data.toList p k ≤ 1000000000000) (fun _ i => s.size - (intOf i).toNat)
    case atStart => exact ⟨0, by omega, rfl, rfl, by simp [mv], by simp [mv]⟩
    case round =>
      obtain ⟨k, hk, rfl, rfl, v0, v1⟩ := hrel
      by_cases hlt : k < s.size
      · have hlt' : (k : Int) < (s.size : Int) := by omega
        by_cases hkp : k = p
        · subst hkp
          have t1 : ((s[k].toNat : Int) == 46) = true := by rw [beq_iff_eq, ← mbl s k hlt]; exact HPT.out.c
          have HA := Lib.hid (mv_at s.data.toList k)
          go_wp2
          go_round
          case rel => exact ⟨k + 1, by omega, by rw [HA.out], by go_num, by rw [HA.out]; exact v0, by rw [HA.out]; exact v1⟩
          case measure => simp [intOf]; omega
        · obtain ⟨b0, b1⟩ := HDG.out k hlt hkp
          rw [mbl s k hlt] at b0 b1
          have HKP := Lib.hid hkp
          have t1 : ((s[k].toNat : Int) == 46) = false := by rw [beq_eq_false_iff_ne]; omega
          by_cases hbig : 1000000000000 < mv s.data.toList p k * 10 + ((s[k].toNat : Int) - 48)
          · have HV := Lib.hid (mp_over' HPT.out HDG.out hlt hkp hbig)
            clear hkp
            go_wp2
            all_goals first
              | (go_ret2; exact ⟨ret_two HV.out.1 HV.out.2, rfl⟩)
              | (exfalso; omega)
          · have HN := Lib.hid (mv_next hlt hkp)
            clear hkp
            go_wp2
            all_goals first
              | (exfalso; omega)
              | (go_round
                 case rel => exact ⟨k + 1, by omega, by rw [HN.out] <;> (congr 1; omega), by go_num, by rw [HN.out]; omega, by rw [HN.out]; omega⟩
                 case measure => simp [intOf]; omega)
      · obtain rfl : k = s.size := by omega
        have HV := Lib.hid (mp_fine' HPT.out HDG.out v1)
        go_wp2
        go_ret2
        exact ⟨ret_two HV.out.1 HV.out.2, rfl⟩
  · have hm' : mfB s.data.toList = false := by simpa using hm
    have HV := Lib.hid (mp_bad hm')
    rw [hm'] at hf
    have HF := Lib.hid hf
    clear hf hm hm'
    go_enter Tryd.func18, Tryd.ntmps18
    go_wp2_with (go_at_call 39; ((with_reducible refine (HF.out _).mono ?_); rintro e w' ⟨rfl, rfl⟩))
    go_ret2
    exact ⟨ret_two HV.out.1 HV.out.2, rfl⟩
end Go.Proofs.YtkpmbkkhdhjbnaaDoor
