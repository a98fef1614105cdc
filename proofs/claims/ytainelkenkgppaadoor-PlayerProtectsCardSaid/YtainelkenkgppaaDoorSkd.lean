/- The library's stable sort over a slice of changes: the merge, by halves. -/
import Derived.Test.YtainelkenkgppaaDoorSkc
namespace Go.Proofs.YtainelkenkgppaaDoor
open Go.ChangeShapes Go.WideShapes Go.ChangeAt Go.RowKit Go.Lott
open Go.Sort Go.Lott.Stb Go.Lott.Srt Go.Lott.Lm
section
variable {w0 W w : World} {blk n cap : Nat} {d : Array Cg}
set_option maxHeartbeats 8000000 in
set_option maxRecDepth 100000 in
theorem symM_gen (k : Nat) (hn : n < 1000000000) (ih : ∀ (d : Array Cg) (W : World) (a m b : Nat), b - a ≤ k → SWR encC 4 w0 blk d W → d.size = n → MPre n a m b d →
      Calls Tryd.prog 81 #[.slice (some ⟨blk, 0, none⟩) n cap, .int .i64 a, .int .i64 m, .int .i64 b, .func (.func 36) #[] #[]] W (KPost w0 blk n (fun d' => Merged ltC a b d d')))
    (S : SWR encC 4 w0 blk d w) (hd : d.size = n) (a m b : Nat) (hk : b - a ≤ k + 1) (h2 : a + 2 ≤ m) (h3 : m + 2 ≤ b) (M : MPre n a m b d) :
    Calls Tryd.prog 81 #[.slice (some ⟨blk, 0, none⟩) n cap, .int .i64 a, .int .i64 m, .int .i64 b, .func (.func 36) #[] #[]] w (KPost w0 blk n (fun d' => Merged ltC a b d d')) := by
  have HI := Lib.hid ih
  have HS := Lib.hid S
  have HD := Lib.hid hd
  have HM := Lib.hid M
  have HN := Lib.hid hn
  have bn := M.bn
  clear S hd ih
  obtain ⟨mid, hmid⟩ : ∃ mid, mid = (a + b) / 2 := ⟨_, rfl⟩
  have em : ((a : Int) + (b : Int)) / 2 = (mid : Int) := by omega
  have m1 : a + 2 ≤ mid := by omega
  have m2 : mid + 2 ≤ b := by omega
  have c0 : ((m : Int) - (a : Int) == 1) = false := by rw [beq_eq_false_iff_ne]; omega
  have c1 : ((b : Int) - (m : Int) == 1) = false := by rw [beq_eq_false_iff_ne]; omega
  by_cases hc : mid < m
  · obtain ⟨lo, hlo⟩ : ∃ lo, lo = mid + m - b := ⟨_, rfl⟩
    obtain ⟨hi, hhi⟩ : ∃ hi, hi = mid := ⟨_, rfl⟩
    have BB := Lib.hid (show Bnd a m b mid lo hi from ⟨by omega, by omega, hmid, Or.inl ⟨hc, hlo, hhi⟩⟩)
    have l1 : a ≤ lo := by omega
    have l2 : lo ≤ hi := by omega
    have l3 : hi ≤ m := by omega
    have l4 : hi ≤ mid := by omega
    have l5 : mid + m ≤ b + lo := by omega
    have l6 : b + lo ≤ mid + m := by omega
    have l7 : mid ≤ hi := by omega
    have HLO := Lib.hid hlo
    have HHI := Lib.hid hhi
    have HMID := Lib.hid hmid
    clear hlo hhi hmid
    go_enter Tryd.func81, Tryd.ntmps81
    go_wp2
    go_loopw [20, 21] (fun vi vj wr => ∃ (s r : Nat), vi = .int .i64 s ∧ vj = .int .i64 r ∧ lo ≤ s ∧ s ≤ r ∧ r ≤ hi ∧ SWR encC 4 w0 blk d wr ∧
      (lo < s → ltC d[mid + m - s]! d[s - 1]! = false) ∧ (r < hi → ltC d[mid + m - 1 - r]! d[r]! = true)) (fun vi vj _ => (intOf vj).toNat - (intOf vi).toNat)
    case atStart => exact ⟨lo, hi, by go_num, by go_num, by omega, by omega, by omega, HS.out, fun h => by omega, fun h => by omega⟩
    case round =>
      obtain ⟨s, r, rfl, rfl, i1, ij, jb, hS, hp, hq⟩ := hrel
      have HW := Lib.hid hS
      have HP := Lib.hid hp
      have HQ := Lib.hid hq
      clear hS hp hq
      by_cases hij : s < r
      · obtain ⟨c, hh⟩ : ∃ c : Nat, c = (s + r) / 2 := ⟨_, rfl⟩
        have h1 : s ≤ c := by omega
        have h2 : c < r := by omega
        have eh : ((s : Int) + (r : Int)) / 2 = (c : Int) := by omega
        have HH := Lib.hid hh
        clear hh
        obtain ⟨x, hx⟩ : ∃ x : Nat, x = mid + m - 1 - c := ⟨_, rfl⟩
        have ex : (mid : Int) + (m : Int) - 1 - (c : Int) = (x : Int) := by omega
        have x1 : (0 : Int) ≤ (x : Int) := by omega
        have x2 : (x : Int) < (n : Int) := by omega
        have x3 : x < n := by omega
        have y1 : (0 : Int) ≤ (c : Int) := by omega
        have y2 : (c : Int) < (n : Int) := by omega
        have y3 : c < n := by omega
        have wx : IntKind.i64.wrap (x : Int) = (x : Int) := IntWalk.i64_in _ (by omega)
        have HX := Lib.hid hx
        clear hx
        cases hlv : ltC d[x]! d[c]! with
        | false =>
          have t1 := cmp_no hlv
          have HV := Lib.hid hlv
          clear hlv
          obtain ⟨sp0, sp1, sp2, sp3, sq0, sq1, sq2, sq3⟩ := two_of HW.out (p := x) (q := c) (by have := HD.out; omega) (by have := HD.out; omega)
          have HCM := Lib.hid (fun (u : Sub (wr).heap.size wr) => byAt_B d[x]! d[c]! u.w)
          go_wp2
          refine wp_region_below (by kernel_rfl) (by kernel_rfl) ?_
          repeat (go_big_quiet_step ((go_at_call 36; exact Sub.ofB _ (by simp) (HCM.out _))))
          refine wpQuiet_nil ?_
          rintro w2 ⟨⟨_, hb2⟩, rfl⟩
          have HW2 := Lib.hid ((HW.out).below hb2)
          clear sp0 sp1 sp2 sp3 sq0 sq1 sq2 sq3 hb2
          go_wp2
          go_roundw
          case rel => exact ⟨c + 1, r, by go_num, rfl, by omega, by omega, jb, HW2.out, fun _ => by rw [show mid + m - (c + 1) = mid + m - 1 - c by omega, show c + 1 - 1 = c by omega, ← HX.out]; exact HV.out, HQ.out⟩
          case measure => simp [intOf]; omega
        | true =>
          have t1 := cmp_yes hlv
          have HV := Lib.hid hlv
          clear hlv
          obtain ⟨sp0, sp1, sp2, sp3, sq0, sq1, sq2, sq3⟩ := two_of HW.out (p := x) (q := c) (by have := HD.out; omega) (by have := HD.out; omega)
          have HCM := Lib.hid (fun (u : Sub (wr).heap.size wr) => byAt_B d[x]! d[c]! u.w)
          go_wp2
          refine wp_region_below (by kernel_rfl) (by kernel_rfl) ?_
          repeat (go_big_quiet_step ((go_at_call 36; exact Sub.ofB _ (by simp) (HCM.out _))))
          refine wpQuiet_nil ?_
          rintro w2 ⟨⟨_, hb2⟩, rfl⟩
          have HW2 := Lib.hid ((HW.out).below hb2)
          clear sp0 sp1 sp2 sp3 sq0 sq1 sq2 sq3 hb2
          go_wp2
          go_roundw
          case rel => exact ⟨s, c, rfl, rfl, i1, by omega, by omega, HW2.out, HP.out, fun _ => by rw [← HX.out]; exact HV.out⟩
          case measure => simp [intOf]; omega
      · obtain rfl : s = r := by omega
        obtain ⟨e, he⟩ : ∃ e, mid + m - s = e := ⟨_, rfl⟩
        have hH := halves swoC BB.out ⟨i1, jb, HP.out, HQ.out⟩ HM.out.sl HM.out.sr
        rw [he] at hH
        have H1 := Lib.hid hH
        have es : s ≤ m := by have := BB.out.lohi; omega
        have es2 : s ≤ mid := by have := BB.out.lohi; omega
        have es3 : a ≤ s := by have := BB.out.lohi; omega
        have es4 : e ≤ b := by have := BB.out.lohi; omega
        have es5 : m ≤ e := by omega
        have es6 : mid ≤ e := by omega
        have ee : (mid : Int) + (m : Int) - (s : Int) = (e : Int) := by omega
        have k1 : mid - a ≤ k := by omega
        have k2 : b - mid ≤ k := by omega
        have q1 : e ≤ n := by omega
        have q2 : mid ≤ n := by omega
        clear hH he hij
        by_cases h1 : s < m ∧ m < e
        · obtain ⟨h1a, h1b⟩ := h1
          by_cases h2 : a < s ∧ s < mid
          · obtain ⟨h2a, h2b⟩ := h2
            by_cases h3 : mid < e ∧ e < b
            · obtain ⟨h3a, h3b⟩ := h3
              go_wp2_with (first | (go_at_call 86; refine (rotF_any (cap := cap) HW.out HD.out HN.out s m e h1a h1b q1).mono ?_; rintro e' wa ⟨rfl, d1, hs1, z1, r1⟩; have HV1 := Lib.hid (H1.out d1 r1)) | (go_at_call 81; have hpl : MPre n a s mid d1 := ⟨h2a, h2b, q2, HV1.out.s1, HV1.out.s2⟩; ((with_reducible refine (HI.out d1 _ a s mid k1 hs1 z1 hpl).mono ?_); rintro e' wb ⟨rfl, d2, hs2, z2, r2⟩; have HV2 := Lib.hid r2; clear hpl)) | (go_at_call 81; have hpr : MPre n mid e b d2 := ⟨h3a, h3b, bn, (SortedIn.cong HV1.out.s3 (fun k k1 k2 => HV2.out.stab.out k (by omega))), (SortedIn.cong HV1.out.s4 (fun k k1 k2 => HV2.out.stab.out k (by omega)))⟩; ((with_reducible refine (HI.out d2 _ mid e b k2 hs2 z2 hpr).mono ?_); rintro e' wc ⟨rfl, d3, hs3, z3, r3⟩; have HV3 := Lib.hid r3; clear hpr)))
              all_goals first
                | (go_end0; exact ⟨rfl, _, hs3, z3, merge_halves swoC (by omega) (by omega) HV1.out.st HV2.out HV3.out HV1.out.le⟩)
                | (exfalso; have hx := HR0.out; omega)
                | (exfalso; have hx := HL0.out; omega)
                | (exfalso; have hx := HO0.out; omega)
            · have HR0 := Lib.hid h3
              clear h3
              go_wp2_with (first | (go_at_call 86; refine (rotF_any (cap := cap) HW.out HD.out HN.out s m e h1a h1b q1).mono ?_; rintro e' wa ⟨rfl, d1, hs1, z1, r1⟩; have HV1 := Lib.hid (H1.out d1 r1)) | (go_at_call 81; have hpl : MPre n a s mid d1 := ⟨h2a, h2b, q2, HV1.out.s1, HV1.out.s2⟩; ((with_reducible refine (HI.out d1 _ a s mid k1 hs1 z1 hpl).mono ?_); rintro e' wb ⟨rfl, d2, hs2, z2, r2⟩; have HV2 := Lib.hid r2; clear hpl)))
              all_goals first
                | (go_end0; exact ⟨rfl, _, hs2, z2, merge_halves swoC (by omega) (by omega) HV1.out.st HV2.out (Merged.left (SortedIn.cong HV1.out.s3 (fun k k1 k2 => HV2.out.stab.out k (by omega))) (SortedIn.cong HV1.out.s4 (fun k k1 k2 => HV2.out.stab.out k (by omega))) (by omega) (by omega) HR0.out) HV1.out.le⟩)
                | (exfalso; have hx := HR0.out; omega)
                | (exfalso; have hx := HL0.out; omega)
                | (exfalso; have hx := HO0.out; omega)
          · have HL0 := Lib.hid h2
            clear h2
            by_cases h3 : mid < e ∧ e < b
            · obtain ⟨h3a, h3b⟩ := h3
              go_wp2_with (first | (go_at_call 86; refine (rotF_any (cap := cap) HW.out HD.out HN.out s m e h1a h1b q1).mono ?_; rintro e' wa ⟨rfl, d1, hs1, z1, r1⟩; have HV1 := Lib.hid (H1.out d1 r1)) | (go_at_call 81; have hpr : MPre n mid e b d1 := ⟨h3a, h3b, bn, HV1.out.s3, HV1.out.s4⟩; ((with_reducible refine (HI.out d1 _ mid e b k2 hs1 z1 hpr).mono ?_); rintro e' wc ⟨rfl, d3, hs3, z3, r3⟩; have HV3 := Lib.hid r3; clear hpr)))
              all_goals first
                | (go_end0; exact ⟨rfl, _, hs3, z3, merge_halves swoC (by omega) (by omega) HV1.out.st (Merged.left HV1.out.s1 HV1.out.s2 (by omega) (by omega) HL0.out) HV3.out HV1.out.le⟩)
                | (exfalso; have hx := HR0.out; omega)
                | (exfalso; have hx := HL0.out; omega)
                | (exfalso; have hx := HO0.out; omega)
            · have HR0 := Lib.hid h3
              clear h3
              go_wp2_with (first | (go_at_call 86; refine (rotF_any (cap := cap) HW.out HD.out HN.out s m e h1a h1b q1).mono ?_; rintro e' wa ⟨rfl, d1, hs1, z1, r1⟩; have HV1 := Lib.hid (H1.out d1 r1)))
              all_goals first
                | (go_end0; exact ⟨rfl, _, hs1, z1, merge_halves swoC (by omega) (by omega) HV1.out.st (Merged.left HV1.out.s1 HV1.out.s2 (by omega) (by omega) HL0.out) (Merged.left HV1.out.s3 HV1.out.s4 (by omega) (by omega) HR0.out) HV1.out.le⟩)
                | (exfalso; have hx := HR0.out; omega)
                | (exfalso; have hx := HL0.out; omega)
                | (exfalso; have hx := HO0.out; omega)
        · have HV1 := Lib.hid (H1.out d (RotAt.none s m e d (by omega)))
          have HO0 := Lib.hid h1
          clear h1
          by_cases h2 : a < s ∧ s < mid
          · obtain ⟨h2a, h2b⟩ := h2
            by_cases h3 : mid < e ∧ e < b
            · obtain ⟨h3a, h3b⟩ := h3
              go_wp2_with (first | fail | (go_at_call 81; have hpl : MPre n a s mid d := ⟨h2a, h2b, q2, HV1.out.s1, HV1.out.s2⟩; ((with_reducible refine (HI.out d _ a s mid k1 HW.out HD.out hpl).mono ?_); rintro e' wb ⟨rfl, d2, hs2, z2, r2⟩; have HV2 := Lib.hid r2; clear hpl)) | (go_at_call 81; have hpr : MPre n mid e b d2 := ⟨h3a, h3b, bn, (SortedIn.cong HV1.out.s3 (fun k k1 k2 => HV2.out.stab.out k (by omega))), (SortedIn.cong HV1.out.s4 (fun k k1 k2 => HV2.out.stab.out k (by omega)))⟩; ((with_reducible refine (HI.out d2 _ mid e b k2 hs2 z2 hpr).mono ?_); rintro e' wc ⟨rfl, d3, hs3, z3, r3⟩; have HV3 := Lib.hid r3; clear hpr)))
              all_goals first
                | (go_end0; exact ⟨rfl, _, hs3, z3, merge_halves swoC (by omega) (by omega) HV1.out.st HV2.out HV3.out HV1.out.le⟩)
                | (exfalso; have hx := HR0.out; omega)
                | (exfalso; have hx := HL0.out; omega)
                | (exfalso; have hx := HO0.out; omega)
            · have HR0 := Lib.hid h3
              clear h3
              go_wp2_with (first | fail | (go_at_call 81; have hpl : MPre n a s mid d := ⟨h2a, h2b, q2, HV1.out.s1, HV1.out.s2⟩; ((with_reducible refine (HI.out d _ a s mid k1 HW.out HD.out hpl).mono ?_); rintro e' wb ⟨rfl, d2, hs2, z2, r2⟩; have HV2 := Lib.hid r2; clear hpl)))
              all_goals first
                | (go_end0; exact ⟨rfl, _, hs2, z2, merge_halves swoC (by omega) (by omega) HV1.out.st HV2.out (Merged.left (SortedIn.cong HV1.out.s3 (fun k k1 k2 => HV2.out.stab.out k (by omega))) (SortedIn.cong HV1.out.s4 (fun k k1 k2 => HV2.out.stab.out k (by omega))) (by omega) (by omega) HR0.out) HV1.out.le⟩)
                | (exfalso; have hx := HR0.out; omega)
                | (exfalso; have hx := HL0.out; omega)
                | (exfalso; have hx := HO0.out; omega)
          · have HL0 := Lib.hid h2
            clear h2
            by_cases h3 : mid < e ∧ e < b
            · obtain ⟨h3a, h3b⟩ := h3
              go_wp2_with (first | fail | (go_at_call 81; have hpr : MPre n mid e b d := ⟨h3a, h3b, bn, HV1.out.s3, HV1.out.s4⟩; ((with_reducible refine (HI.out d _ mid e b k2 HW.out HD.out hpr).mono ?_); rintro e' wc ⟨rfl, d3, hs3, z3, r3⟩; have HV3 := Lib.hid r3; clear hpr)))
              all_goals first
                | (go_end0; exact ⟨rfl, _, hs3, z3, merge_halves swoC (by omega) (by omega) HV1.out.st (Merged.left HV1.out.s1 HV1.out.s2 (by omega) (by omega) HL0.out) HV3.out HV1.out.le⟩)
                | (exfalso; have hx := HR0.out; omega)
                | (exfalso; have hx := HL0.out; omega)
                | (exfalso; have hx := HO0.out; omega)
            · have HR0 := Lib.hid h3
              clear h3
              go_wp2_with (first | fail)
              all_goals first
                | (go_end0; exact ⟨rfl, _, HW.out, HD.out, merge_halves swoC (by omega) (by omega) HV1.out.st (Merged.left HV1.out.s1 HV1.out.s2 (by omega) (by omega) HL0.out) (Merged.left HV1.out.s3 HV1.out.s4 (by omega) (by omega) HR0.out) HV1.out.le⟩)
                | (exfalso; have hx := HR0.out; omega)
                | (exfalso; have hx := HL0.out; omega)
                | (exfalso; have hx := HO0.out; omega)
  · obtain ⟨lo, hlo⟩ : ∃ lo, lo = a := ⟨_, rfl⟩
    obtain ⟨hi, hhi⟩ : ∃ hi, hi = m := ⟨_, rfl⟩
    have BB := Lib.hid (show Bnd a m b mid lo hi from ⟨by omega, by omega, hmid, Or.inr ⟨by omega, hlo, hhi⟩⟩)
    have l1 : a ≤ lo := by omega
    have l2 : lo ≤ hi := by omega
    have l3 : hi ≤ m := by omega
    have l4 : hi ≤ mid := by omega
    have l5 : lo ≤ a := by omega
    have l6 : m ≤ hi := by omega
    have HLO := Lib.hid hlo
    have HHI := Lib.hid hhi
    have HMID := Lib.hid hmid
    clear hlo hhi hmid
    go_enter Tryd.func81, Tryd.ntmps81
    go_wp2
    go_loopw [20, 21] (fun vi vj wr => ∃ (s r : Nat), vi = .int .i64 s ∧ vj = .int .i64 r ∧ lo ≤ s ∧ s ≤ r ∧ r ≤ hi ∧ SWR encC 4 w0 blk d wr ∧
      (lo < s → ltC d[mid + m - s]! d[s - 1]! = false) ∧ (r < hi → ltC d[mid + m - 1 - r]! d[r]! = true)) (fun vi vj _ => (intOf vj).toNat - (intOf vi).toNat)
    case atStart => exact ⟨lo, hi, by go_num, by go_num, by omega, by omega, by omega, HS.out, fun h => by omega, fun h => by omega⟩
    case round =>
      obtain ⟨s, r, rfl, rfl, i1, ij, jb, hS, hp, hq⟩ := hrel
      have HW := Lib.hid hS
      have HP := Lib.hid hp
      have HQ := Lib.hid hq
      clear hS hp hq
      by_cases hij : s < r
      · obtain ⟨c, hh⟩ : ∃ c : Nat, c = (s + r) / 2 := ⟨_, rfl⟩
        have h1 : s ≤ c := by omega
        have h2 : c < r := by omega
        have eh : ((s : Int) + (r : Int)) / 2 = (c : Int) := by omega
        have HH := Lib.hid hh
        clear hh
        obtain ⟨x, hx⟩ : ∃ x : Nat, x = mid + m - 1 - c := ⟨_, rfl⟩
        have ex : (mid : Int) + (m : Int) - 1 - (c : Int) = (x : Int) := by omega
        have x1 : (0 : Int) ≤ (x : Int) := by omega
        have x2 : (x : Int) < (n : Int) := by omega
        have x3 : x < n := by omega
        have y1 : (0 : Int) ≤ (c : Int) := by omega
        have y2 : (c : Int) < (n : Int) := by omega
        have y3 : c < n := by omega
        have wx : IntKind.i64.wrap (x : Int) = (x : Int) := IntWalk.i64_in _ (by omega)
        have HX := Lib.hid hx
        clear hx
        cases hlv : ltC d[x]! d[c]! with
        | false =>
          have t1 := cmp_no hlv
          have HV := Lib.hid hlv
          clear hlv
          obtain ⟨sp0, sp1, sp2, sp3, sq0, sq1, sq2, sq3⟩ := two_of HW.out (p := x) (q := c) (by have := HD.out; omega) (by have := HD.out; omega)
          have HCM := Lib.hid (fun (u : Sub (wr).heap.size wr) => byAt_B d[x]! d[c]! u.w)
          go_wp2
          refine wp_region_below (by kernel_rfl) (by kernel_rfl) ?_
          repeat (go_big_quiet_step ((go_at_call 36; exact Sub.ofB _ (by simp) (HCM.out _))))
          refine wpQuiet_nil ?_
          rintro w2 ⟨⟨_, hb2⟩, rfl⟩
          have HW2 := Lib.hid ((HW.out).below hb2)
          clear sp0 sp1 sp2 sp3 sq0 sq1 sq2 sq3 hb2
          go_wp2
          go_roundw
          case rel => exact ⟨c + 1, r, by go_num, rfl, by omega, by omega, jb, HW2.out, fun _ => by rw [show mid + m - (c + 1) = mid + m - 1 - c by omega, show c + 1 - 1 = c by omega, ← HX.out]; exact HV.out, HQ.out⟩
          case measure => simp [intOf]; omega
        | true =>
          have t1 := cmp_yes hlv
          have HV := Lib.hid hlv
          clear hlv
          obtain ⟨sp0, sp1, sp2, sp3, sq0, sq1, sq2, sq3⟩ := two_of HW.out (p := x) (q := c) (by have := HD.out; omega) (by have := HD.out; omega)
          have HCM := Lib.hid (fun (u : Sub (wr).heap.size wr) => byAt_B d[x]! d[c]! u.w)
          go_wp2
          refine wp_region_below (by kernel_rfl) (by kernel_rfl) ?_
          repeat (go_big_quiet_step ((go_at_call 36; exact Sub.ofB _ (by simp) (HCM.out _))))
          refine wpQuiet_nil ?_
          rintro w2 ⟨⟨_, hb2⟩, rfl⟩
          have HW2 := Lib.hid ((HW.out).below hb2)
          clear sp0 sp1 sp2 sp3 sq0 sq1 sq2 sq3 hb2
          go_wp2
          go_roundw
          case rel => exact ⟨s, c, rfl, rfl, i1, by omega, by omega, HW2.out, HP.out, fun _ => by rw [← HX.out]; exact HV.out⟩
          case measure => simp [intOf]; omega
      · obtain rfl : s = r := by omega
        obtain ⟨e, he⟩ : ∃ e, mid + m - s = e := ⟨_, rfl⟩
        have hH := halves swoC BB.out ⟨i1, jb, HP.out, HQ.out⟩ HM.out.sl HM.out.sr
        rw [he] at hH
        have H1 := Lib.hid hH
        have es : s ≤ m := by have := BB.out.lohi; omega
        have es2 : s ≤ mid := by have := BB.out.lohi; omega
        have es3 : a ≤ s := by have := BB.out.lohi; omega
        have es4 : e ≤ b := by have := BB.out.lohi; omega
        have es5 : m ≤ e := by omega
        have es6 : mid ≤ e := by omega
        have ee : (mid : Int) + (m : Int) - (s : Int) = (e : Int) := by omega
        have k1 : mid - a ≤ k := by omega
        have k2 : b - mid ≤ k := by omega
        have q1 : e ≤ n := by omega
        have q2 : mid ≤ n := by omega
        clear hH he hij
        by_cases h1 : s < m ∧ m < e
        · obtain ⟨h1a, h1b⟩ := h1
          by_cases h2 : a < s ∧ s < mid
          · obtain ⟨h2a, h2b⟩ := h2
            by_cases h3 : mid < e ∧ e < b
            · obtain ⟨h3a, h3b⟩ := h3
              go_wp2_with (first | (go_at_call 86; refine (rotF_any (cap := cap) HW.out HD.out HN.out s m e h1a h1b q1).mono ?_; rintro e' wa ⟨rfl, d1, hs1, z1, r1⟩; have HV1 := Lib.hid (H1.out d1 r1)) | (go_at_call 81; have hpl : MPre n a s mid d1 := ⟨h2a, h2b, q2, HV1.out.s1, HV1.out.s2⟩; ((with_reducible refine (HI.out d1 _ a s mid k1 hs1 z1 hpl).mono ?_); rintro e' wb ⟨rfl, d2, hs2, z2, r2⟩; have HV2 := Lib.hid r2; clear hpl)) | (go_at_call 81; have hpr : MPre n mid e b d2 := ⟨h3a, h3b, bn, (SortedIn.cong HV1.out.s3 (fun k k1 k2 => HV2.out.stab.out k (by omega))), (SortedIn.cong HV1.out.s4 (fun k k1 k2 => HV2.out.stab.out k (by omega)))⟩; ((with_reducible refine (HI.out d2 _ mid e b k2 hs2 z2 hpr).mono ?_); rintro e' wc ⟨rfl, d3, hs3, z3, r3⟩; have HV3 := Lib.hid r3; clear hpr)))
              all_goals first
                | (go_end0; exact ⟨rfl, _, hs3, z3, merge_halves swoC (by omega) (by omega) HV1.out.st HV2.out HV3.out HV1.out.le⟩)
                | (exfalso; have hx := HR0.out; omega)
                | (exfalso; have hx := HL0.out; omega)
                | (exfalso; have hx := HO0.out; omega)
            · have HR0 := Lib.hid h3
              clear h3
              go_wp2_with (first | (go_at_call 86; refine (rotF_any (cap := cap) HW.out HD.out HN.out s m e h1a h1b q1).mono ?_; rintro e' wa ⟨rfl, d1, hs1, z1, r1⟩; have HV1 := Lib.hid (H1.out d1 r1)) | (go_at_call 81; have hpl : MPre n a s mid d1 := ⟨h2a, h2b, q2, HV1.out.s1, HV1.out.s2⟩; ((with_reducible refine (HI.out d1 _ a s mid k1 hs1 z1 hpl).mono ?_); rintro e' wb ⟨rfl, d2, hs2, z2, r2⟩; have HV2 := Lib.hid r2; clear hpl)))
              all_goals first
                | (go_end0; exact ⟨rfl, _, hs2, z2, merge_halves swoC (by omega) (by omega) HV1.out.st HV2.out (Merged.left (SortedIn.cong HV1.out.s3 (fun k k1 k2 => HV2.out.stab.out k (by omega))) (SortedIn.cong HV1.out.s4 (fun k k1 k2 => HV2.out.stab.out k (by omega))) (by omega) (by omega) HR0.out) HV1.out.le⟩)
                | (exfalso; have hx := HR0.out; omega)
                | (exfalso; have hx := HL0.out; omega)
                | (exfalso; have hx := HO0.out; omega)
          · have HL0 := Lib.hid h2
            clear h2
            by_cases h3 : mid < e ∧ e < b
            · obtain ⟨h3a, h3b⟩ := h3
              go_wp2_with (first | (go_at_call 86; refine (rotF_any (cap := cap) HW.out HD.out HN.out s m e h1a h1b q1).mono ?_; rintro e' wa ⟨rfl, d1, hs1, z1, r1⟩; have HV1 := Lib.hid (H1.out d1 r1)) | (go_at_call 81; have hpr : MPre n mid e b d1 := ⟨h3a, h3b, bn, HV1.out.s3, HV1.out.s4⟩; ((with_reducible refine (HI.out d1 _ mid e b k2 hs1 z1 hpr).mono ?_); rintro e' wc ⟨rfl, d3, hs3, z3, r3⟩; have HV3 := Lib.hid r3; clear hpr)))
              all_goals first
                | (go_end0; exact ⟨rfl, _, hs3, z3, merge_halves swoC (by omega) (by omega) HV1.out.st (Merged.left HV1.out.s1 HV1.out.s2 (by omega) (by omega) HL0.out) HV3.out HV1.out.le⟩)
                | (exfalso; have hx := HR0.out; omega)
                | (exfalso; have hx := HL0.out; omega)
                | (exfalso; have hx := HO0.out; omega)
            · have HR0 := Lib.hid h3
              clear h3
              go_wp2_with (first | (go_at_call 86; refine (rotF_any (cap := cap) HW.out HD.out HN.out s m e h1a h1b q1).mono ?_; rintro e' wa ⟨rfl, d1, hs1, z1, r1⟩; have HV1 := Lib.hid (H1.out d1 r1)))
              all_goals first
                | (go_end0; exact ⟨rfl, _, hs1, z1, merge_halves swoC (by omega) (by omega) HV1.out.st (Merged.left HV1.out.s1 HV1.out.s2 (by omega) (by omega) HL0.out) (Merged.left HV1.out.s3 HV1.out.s4 (by omega) (by omega) HR0.out) HV1.out.le⟩)
                | (exfalso; have hx := HR0.out; omega)
                | (exfalso; have hx := HL0.out; omega)
                | (exfalso; have hx := HO0.out; omega)
        · have HV1 := Lib.hid (H1.out d (RotAt.none s m e d (by omega)))
          have HO0 := Lib.hid h1
          clear h1
          by_cases h2 : a < s ∧ s < mid
          · obtain ⟨h2a, h2b⟩ := h2
            by_cases h3 : mid < e ∧ e < b
            · obtain ⟨h3a, h3b⟩ := h3
              go_wp2_with (first | fail | (go_at_call 81; have hpl : MPre n a s mid d := ⟨h2a, h2b, q2, HV1.out.s1, HV1.out.s2⟩; ((with_reducible refine (HI.out d _ a s mid k1 HW.out HD.out hpl).mono ?_); rintro e' wb ⟨rfl, d2, hs2, z2, r2⟩; have HV2 := Lib.hid r2; clear hpl)) | (go_at_call 81; have hpr : MPre n mid e b d2 := ⟨h3a, h3b, bn, (SortedIn.cong HV1.out.s3 (fun k k1 k2 => HV2.out.stab.out k (by omega))), (SortedIn.cong HV1.out.s4 (fun k k1 k2 => HV2.out.stab.out k (by omega)))⟩; ((with_reducible refine (HI.out d2 _ mid e b k2 hs2 z2 hpr).mono ?_); rintro e' wc ⟨rfl, d3, hs3, z3, r3⟩; have HV3 := Lib.hid r3; clear hpr)))
              all_goals first
                | (go_end0; exact ⟨rfl, _, hs3, z3, merge_halves swoC (by omega) (by omega) HV1.out.st HV2.out HV3.out HV1.out.le⟩)
                | (exfalso; have hx := HR0.out; omega)
                | (exfalso; have hx := HL0.out; omega)
                | (exfalso; have hx := HO0.out; omega)
            · have HR0 := Lib.hid h3
              clear h3
              go_wp2_with (first | fail | (go_at_call 81; have hpl : MPre n a s mid d := ⟨h2a, h2b, q2, HV1.out.s1, HV1.out.s2⟩; ((with_reducible refine (HI.out d _ a s mid k1 HW.out HD.out hpl).mono ?_); rintro e' wb ⟨rfl, d2, hs2, z2, r2⟩; have HV2 := Lib.hid r2; clear hpl)))
              all_goals first
                | (go_end0; exact ⟨rfl, _, hs2, z2, merge_halves swoC (by omega) (by omega) HV1.out.st HV2.out (Merged.left (SortedIn.cong HV1.out.s3 (fun k k1 k2 => HV2.out.stab.out k (by omega))) (SortedIn.cong HV1.out.s4 (fun k k1 k2 => HV2.out.stab.out k (by omega))) (by omega) (by omega) HR0.out) HV1.out.le⟩)
                | (exfalso; have hx := HR0.out; omega)
                | (exfalso; have hx := HL0.out; omega)
                | (exfalso; have hx := HO0.out; omega)
          · have HL0 := Lib.hid h2
            clear h2
            by_cases h3 : mid < e ∧ e < b
            · obtain ⟨h3a, h3b⟩ := h3
              go_wp2_with (first | fail | (go_at_call 81; have hpr : MPre n mid e b d := ⟨h3a, h3b, bn, HV1.out.s3, HV1.out.s4⟩; ((with_reducible refine (HI.out d _ mid e b k2 HW.out HD.out hpr).mono ?_); rintro e' wc ⟨rfl, d3, hs3, z3, r3⟩; have HV3 := Lib.hid r3; clear hpr)))
              all_goals first
                | (go_end0; exact ⟨rfl, _, hs3, z3, merge_halves swoC (by omega) (by omega) HV1.out.st (Merged.left HV1.out.s1 HV1.out.s2 (by omega) (by omega) HL0.out) HV3.out HV1.out.le⟩)
                | (exfalso; have hx := HR0.out; omega)
                | (exfalso; have hx := HL0.out; omega)
                | (exfalso; have hx := HO0.out; omega)
            · have HR0 := Lib.hid h3
              clear h3
              go_wp2_with (first | fail)
              all_goals first
                | (go_end0; exact ⟨rfl, _, HW.out, HD.out, merge_halves swoC (by omega) (by omega) HV1.out.st (Merged.left HV1.out.s1 HV1.out.s2 (by omega) (by omega) HL0.out) (Merged.left HV1.out.s3 HV1.out.s4 (by omega) (by omega) HR0.out) HV1.out.le⟩)
                | (exfalso; have hx := HR0.out; omega)
                | (exfalso; have hx := HL0.out; omega)
                | (exfalso; have hx := HO0.out; omega)
end
end Go.Proofs.YtainelkenkgppaaDoor
