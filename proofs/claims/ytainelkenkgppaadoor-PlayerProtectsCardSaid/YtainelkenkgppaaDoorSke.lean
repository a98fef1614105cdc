/- The library's stable sort over a slice of changes: the whole. -/
import Derived.Test.YtainelkenkgppaaDoorSkd
import Derived.Test.YtainelkenkgppaaDoorShelfB
namespace Go.Proofs.YtainelkenkgppaaDoor
open Go.ChangeShapes Go.WideShapes Go.ChangeAt Go.RowKit Go.Lott
open Go.Sort Go.Lott.Stb Go.Lott.Srt Go.Lott.Lm
section
variable {w0 W w : World} {blk n cap : Nat} {d : Array Cg}
theorem symM_any (hn : n < 1000000000) : ∀ (k : Nat) (d : Array Cg) (W : World) (a m b : Nat), b - a ≤ k → SWR encC 4 w0 blk d W → d.size = n → MPre n a m b d →
      Calls Tryd.prog 81 #[.slice (some ⟨blk, 0, none⟩) n cap, .int .i64 a, .int .i64 m, .int .i64 b, .func (.func 36) #[] #[]] W (KPost w0 blk n (fun d' => Merged ltC a b d d'))
  | 0, _, _, a, m, b, hk, _, _, M => by have := M.am; have := M.mb; omega
  | k + 1, d, W, a, m, b, hk, S, hd, M => by
    have h1 := M.am
    have h2 := M.mb
    by_cases c1 : m = a + 1
    · subst c1; exact symM_one S hd hn a b M
    · by_cases c2 : b = m + 1
      · subst c2; exact symM_last S hd hn a m (by omega) M
      · exact symM_gen k hn (symM_any hn k) S hd a m b hk (by omega) (by omega) M
theorem ltC_of : ltOf (fun x y : Cg => Lib.compareInt x.1 y.1) = ltC := by
  funext x y
  exact cmp_lt x y
theorem insF_any (S : SWR encC 4 w0 blk d w) (hd : d.size = n) (hn : n < 1000000000) (a b : Nat) (h1 : a ≤ b) (h2 : b ≤ n) :
    Calls Tryd.prog 80 #[.slice (some ⟨blk, 0, none⟩) n cap, .int .i64 a, .int .i64 b, .func (.func 36) #[] #[]] w (KPost w0 blk n (fun d' => Merged ltC a b d d')) := by
  have eg : ∀ args w, (callFunc 36 args).run Tryd.prog w = .ok (.enter 36 args) w := enters_of Tryd.func36 (by kernel_rfl) rfl
  have hcon := AnyQ.insertionSortCmpFunc Tryd.laysIns 4 Tryd.isAgg30 Tryd.sizeOf30 encC encC_len encC_one (fun x y => Lib.compareInt x.1 y.1) 36 #[] blk 0 cap a b d w eg (fun _ _ _ _ x y => byAt_any x y _) S.row S.blk_lt h1 (by omega) (by omega)
  rw [hd, ltC_of] at hcon
  change Calls Tryd.prog 80 _ _ _ at hcon
  have hm := ins_merged swoC d h1 (by omega : b ≤ d.size)
  refine hcon.mono fun e w' ⟨he, q, os, hw⟩ => ⟨he, _, S.ofK hw hm.stab.size, hm.stab.size.trans hd, hm⟩
set_option maxHeartbeats 4000000 in
set_option maxRecDepth 100000 in
theorem stab_any (S : SWR encC 4 w0 blk d w) (hd : d.size = n) (hn : n < 1000000000) :
    Calls Tryd.prog 63 #[.slice (some ⟨blk, 0, none⟩) n cap, .int .i64 n, .func (.func 36) #[] #[]] w (KPost w0 blk n (fun d' => Merged ltC 0 n d d')) := by
  have HS := Lib.hid S
  have HD := Lib.hid hd
  have HN := Lib.hid hn
  clear S hd
  go_enter Tryd.func63, Tryd.ntmps63
  go_wp2
  go_loopw [7, 8] (fun va vb wr => ∃ (j a : Nat) (dk : Array Cg), va = .int .i64 a ∧ vb = .int .i64 ((a : Int) + 20) ∧ Hid (a = j * 20) ∧ a ≤ n ∧ SWR encC 4 w0 blk dk wr ∧ dk.size = n ∧
    StabIn ltC 0 n d dk ∧ BlkS ltC 20 a dk) (fun va _ _ => n - (intOf va).toNat)
  case atStart => exact ⟨0, 0, d, rfl, rfl, rfl, by omega, HS.out, HD.out, StabIn.refl _ _ _ _, BlkS.start _ _ _⟩
  case round =>
    obtain ⟨j, a, dk, rfl, rfl, hj, ha, hS, hz, hst, hbk⟩ := hrel
    have HW := Lib.hid hS
    have HZ := Lib.hid hz
    have HST := Lib.hid hst
    have HBK := Lib.hid hbk
    clear hS hz hst hbk
    by_cases hb : a + 20 ≤ n
    · have HC := Lib.hid (insF_any (cap := cap) HW.out HZ.out HN.out a (a + 20) (by omega) hb)
      rw [show ((a + 20 : Nat) : Int) = (a : Int) + 20 by omega] at HC
      go_wp2_with (go_at_call 80; refine HC.out.mono ?_; rintro e wa ⟨rfl, d1, hs1, z1, r1⟩)
      go_roundw
      case rel => exact ⟨j + 1, a + 20, d1, by go_num, by go_num, by have := hj.out; exact (by omega : a + 20 = (j + 1) * 20), hb, hs1, z1, HST.out.trans (r1.stab.mono (Nat.zero_le _) (by omega) hb), HBK.out.step hj.out (by omega) r1⟩
      case measure => simp [intOf]; omega
    · have HC := Lib.hid (insF_any (cap := cap) HW.out HZ.out HN.out a n ha (Nat.le_refl _))
      go_wp2_with (go_at_call 80; refine HC.out.mono ?_; rintro e wa ⟨rfl, d1, hs1, z1, r1⟩)
      have HS1 := Lib.hid hs1
      have HZ1 := Lib.hid z1
      have HST1 := Lib.hid (HST.out.trans (r1.stab.mono (Nat.zero_le _) ha (Nat.le_refl _)))
      have HBK1 := Lib.hid (HBK.out.step hj.out (by omega) r1)
      clear hs1 z1 r1
      go_loopw [6] (fun vB wr => ∃ (B : Nat) (dk : Array Cg), vB = .int .i64 B ∧ 20 ≤ B ∧ B ≤ 2 * n + 20 ∧ SWR encC 4 w0 blk dk wr ∧ dk.size = n ∧
        StabIn ltC 0 n d dk ∧ BlkS ltC B n dk) (fun vB _ => n - (intOf vB).toNat)
      case atStart => exact ⟨20, d1, rfl, by omega, by omega, HS1.out, HZ1.out, HST1.out, HBK1.out⟩
      case round =>
        obtain ⟨B, dB, rfl, B1, B2, hS, hz, hst, hbk⟩ := hrel
        have HWB := Lib.hid hS
        have HZB := Lib.hid hz
        have HSTB := Lib.hid hst
        have HBKB := Lib.hid hbk
        clear hS hz hst hbk
        by_cases hBn : B < n
        · go_wp2
          go_loopw [7, 8] (fun va vb wr => ∃ (j a : Nat) (dk : Array Cg), va = .int .i64 a ∧ vb = .int .i64 ((a : Int) + 2 * (B : Int)) ∧ Hid (a = j * (2 * B)) ∧ a ≤ n ∧ SWR encC 4 w0 blk dk wr ∧ dk.size = n ∧
            StabIn ltC 0 n d dk ∧ BlkT ltC B n a dk) (fun va _ _ => n - (intOf va).toNat)
          case atStart => exact ⟨0, 0, dB, rfl, by go_num, by show 0 = 0 * (2 * B); omega, by omega, HWB.out, HZB.out, HSTB.out, BlkT.start HBKB.out⟩
          case round =>
            obtain ⟨j2, a2, dk2, rfl, rfl, hj2, ha2, hS, hz, hst, hbk⟩ := hrel
            have HW2 := Lib.hid hS
            have HZ2 := Lib.hid hz
            have HST2 := Lib.hid hst
            have HBK2 := Lib.hid hbk
            clear hS hz hst hbk
            by_cases hb2 : a2 + 2 * B ≤ n
            · have hr := HBK2.out.runs hj2.out (a2 + 2 * B) (Nat.le_refl _) hb2 (by omega)
              have HC2 := Lib.hid (symM_any (cap := cap) HN.out _ dk2 _ a2 (a2 + B) (a2 + 2 * B) (Nat.le_refl _) HW2.out HZ2.out ⟨by omega, by omega, hb2, hr.1, hr.2⟩)
              rw [show ((a2 + B : Nat) : Int) = (a2 : Int) + (B : Int) by omega, show ((a2 + 2 * B : Nat) : Int) = (a2 : Int) + 2 * (B : Int) by omega] at HC2
              clear hr
              go_wp2_with (go_at_call 81; refine HC2.out.mono ?_; rintro e wb ⟨rfl, d3, hs3, z3, r3⟩)
              go_roundw
              case rel => exact ⟨j2 + 1, a2 + 2 * B, d3, by go_num, by go_num, by have := hj2.out; show a2 + 2 * B = (j2 + 1) * (2 * B); rw [Nat.add_mul j2, Nat.one_mul, ← this], hb2, hs3, z3, HST2.out.trans (r3.stab.mono (Nat.zero_le _) (by omega) hb2), HBK2.out.step hj2.out rfl r3⟩
              case measure => simp [intOf]; omega
            · by_cases hm : a2 + B < n
              · have hr := HBK2.out.runs hj2.out n (by omega) (Nat.le_refl _) (by omega)
                have HC2 := Lib.hid (symM_any (cap := cap) HN.out _ dk2 _ a2 (a2 + B) n (Nat.le_refl _) HW2.out HZ2.out ⟨by omega, hm, Nat.le_refl _, hr.1, hr.2⟩)
                rw [show ((a2 + B : Nat) : Int) = (a2 : Int) + (B : Int) by omega] at HC2
                clear hr
                go_wp2_with (go_at_call 81; refine HC2.out.mono ?_; rintro e wb ⟨rfl, d3, hs3, z3, r3⟩)
                go_roundw
                case rel => exact ⟨B * 2, d3, by go_num, by omega, by omega, hs3, z3, HST2.out.trans (r3.stab.mono (Nat.zero_le _) ha2 (Nat.le_refl _)), by rw [Nat.mul_comm B 2]; exact HBK2.out.low.step hj2.out (by omega) r3⟩
                case measure => simp [intOf]; omega
              · go_wp2
                go_roundw
                case rel => exact ⟨B * 2, dk2, by go_num, by omega, by omega, HW2.out, HZ2.out, HST2.out, by rw [Nat.mul_comm B 2]; exact HBK2.out.last hj2.out (by omega)⟩
                case measure => simp [intOf]; omega
        · go_wp2
          go_end0
          exact ⟨rfl, dB, HWB.out, HZB.out, ⟨HSTB.out, HBKB.out.all (by omega)⟩⟩
/-- slices.SortStableFunc by 'At'. -/
theorem SStab_any (S : SWR encC 4 w0 blk d w) (hd : d.size = n) (hn : n < 1000000000) :
    Calls Tryd.prog 35 #[.slice (some ⟨blk, 0, none⟩) n cap, .func (.func 36) #[] #[]] w (KPost w0 blk n (fun d' => Merged ltC 0 n d d')) := by
  have HC := Lib.hid (stab_any (cap := cap) S hd hn)
  clear S hd
  go_enter Tryd.func35, Tryd.ntmps35
  go_wp2_with (go_at_call 63; refine HC.out.mono ?_; rintro e wb ⟨rfl, d3, hs3, z3, r3⟩)
  go_end0
  exact ⟨rfl, d3, hs3, z3, r3⟩
end
end Go.Proofs.YtainelkenkgppaaDoor
