/- The library's stable sort over a slice of changes: the merge in place. -/
import Derived.Test.YtainelkenkgppaaDoorSkb
namespace Go.Proofs.YtainelkenkgppaaDoor
open Go.ChangeShapes Go.WideShapes Go.ChangeAt Go.RowKit Go.Lott
open Go.Sort Go.Lott.Stb Go.Lott.Srt Go.Lott.Lm
/-- What is asked of a merge. -/
structure MPre (n a m b : Nat) (d : Array Cg) : Prop where
  am : a < m
  mb : m < b
  bn : b ≤ n
  sl : SortedIn ltC a m d
  sr : SortedIn ltC m b d
section
variable {w0 W w : World} {blk n cap : Nat} {d : Array Cg}
theorem cmp_yes {x y : Cg} (h : ltC x y = true) : decide (Lib.compareInt x.1 y.1 < 0) = true := by rw [cmp_lt]; exact h
theorem cmp_no {x y : Cg} (h : ltC x y = false) : decide (Lib.compareInt x.1 y.1 < 0) = false := by rw [cmp_lt]; exact h
/-- The cells of two elements, in every world that is as W below its size. -/
structure Two (W : World) (blk p q : Nat) (x y : Cg) : Prop where
  p0 : ∀ u : Sub W.heap.size W, u.w.cell? ⟨blk, p * 4, none⟩ = some (.int .i64 x.1)
  p1 : ∀ u : Sub W.heap.size W, u.w.cell? ⟨blk, p * 4 + 1, none⟩ = some (.int .i64 x.2.1)
  p2 : ∀ u : Sub W.heap.size W, u.w.cell? ⟨blk, p * 4 + 2, none⟩ = some (.int .i64 x.2.2.1)
  p3 : ∀ u : Sub W.heap.size W, u.w.cell? ⟨blk, p * 4 + 3, none⟩ = some (.int .i64 x.2.2.2)
  q0 : ∀ u : Sub W.heap.size W, u.w.cell? ⟨blk, q * 4, none⟩ = some (.int .i64 y.1)
  q1 : ∀ u : Sub W.heap.size W, u.w.cell? ⟨blk, q * 4 + 1, none⟩ = some (.int .i64 y.2.1)
  q2 : ∀ u : Sub W.heap.size W, u.w.cell? ⟨blk, q * 4 + 2, none⟩ = some (.int .i64 y.2.2.1)
  q3 : ∀ u : Sub W.heap.size W, u.w.cell? ⟨blk, q * 4 + 3, none⟩ = some (.int .i64 y.2.2.2)
theorem two_of (h : SWR encC 4 w0 blk d W) {p q : Nat} (hp : p < d.size) (hq : q < d.size) : Two W blk p q d[p]! d[q]! := by
  have a := cel4 h hp
  have b := cel4 h hq
  have l := h.blk_lt
  exact ⟨Sub.cell a.c0 l, Sub.cell a.c1 l, Sub.cell a.c2 l, Sub.cell a.c3 l, Sub.cell b.c0 l, Sub.cell b.c1 l, Sub.cell b.c2 l, Sub.cell b.c3 l⟩
set_option maxHeartbeats 4000000 in
set_option maxRecDepth 100000 in
/-- One element ahead: it goes to its place. -/
theorem symM_one (S : SWR encC 4 w0 blk d w) (hd : d.size = n) (hn : n < 1000000000) (a b : Nat) (M : MPre n a (a + 1) b d) :
    Calls Tryd.prog 81 #[.slice (some ⟨blk, 0, none⟩) n cap, .int .i64 a, .int .i64 ((a + 1 : Nat) : Int), .int .i64 b, .func (.func 36) #[] #[]] w (KPost w0 blk n (fun d' => Merged ltC a b d d')) := by
  have HS := Lib.hid S
  have HD := Lib.hid hd
  have HM := Lib.hid M
  have mb := M.mb
  have bn := M.bn
  clear S hd
  have e1 : ((a + 1 : Nat) : Int) = (a : Int) + 1 := by omega
  rw [e1]
  clear e1
  have c1 : ((a : Int) + 1 - (a : Int) == 1) = true := by rw [beq_iff_eq]; omega
  have a1 : (0 : Int) ≤ (a : Int) := by omega
  have a2 : (a : Int) < (n : Int) := by omega
  have a3 : a < n := by omega
  go_enter Tryd.func81, Tryd.ntmps81
  go_wp2
  go_loopw [10, 11] (fun vi vj wr => ∃ (i j : Nat), vi = .int .i64 i ∧ vj = .int .i64 j ∧ a + 1 ≤ i ∧ i ≤ j ∧ j ≤ b ∧ SWR encC 4 w0 blk d wr ∧
    (a + 1 < i → ltC d[i - 1]! d[a]! = true) ∧ (j < b → ltC d[j]! d[a]! = false)) (fun vi vj _ => (intOf vj).toNat - (intOf vi).toNat)
  case atStart => exact ⟨a + 1, b, by go_num, rfl, by omega, by omega, by omega, HS.out, fun h => by omega, fun h => by omega⟩
  case round =>
    obtain ⟨i, j, rfl, rfl, i1, ij, jb, hS, hp, hq⟩ := hrel
    have HW := Lib.hid hS
    have HP := Lib.hid hp
    have HQ := Lib.hid hq
    clear hS hp hq
    by_cases hij : i < j
    · obtain ⟨h, hh⟩ : ∃ h : Nat, h = (i + j) / 2 := ⟨_, rfl⟩
      have h1 : i ≤ h := by omega
      have h2 : h < j := by omega
      have h3 : (0 : Int) ≤ (h : Int) := by omega
      have h4 : (h : Int) < (n : Int) := by omega
      have h5 : h < n := by omega
      have eh : ((i : Int) + (j : Int)) / 2 = (h : Int) := by omega
      have HH := Lib.hid hh
      clear hh
      cases hlv : ltC d[h]! d[a]! with
      | true =>
        have t1 := cmp_yes hlv
        have HV := Lib.hid hlv
        clear hlv
        obtain ⟨sp0, sp1, sp2, sp3, sq0, sq1, sq2, sq3⟩ := two_of HW.out (p := h) (q := a) (by have := HD.out; omega) (by have := HD.out; omega)
        have HCM := Lib.hid (fun (u : Sub (wr).heap.size wr) => byAt_B d[h]! d[a]! u.w)
        go_wp2
        refine wp_region_below (by kernel_rfl) (by kernel_rfl) ?_
        repeat (go_big_quiet_step ((go_at_call 36; exact Sub.ofB _ (by simp) (HCM.out _))))
        refine wpQuiet_nil ?_
        rintro w2 ⟨⟨_, hb2⟩, rfl⟩
        have HW2 := Lib.hid ((HW.out).below hb2)
        clear sp0 sp1 sp2 sp3 sq0 sq1 sq2 sq3 hb2
        go_wp2
        go_roundw
        case rel => exact ⟨h + 1, j, by go_num, rfl, by omega, by omega, jb, HW2.out, fun _ => HV.out, HQ.out⟩
        case measure => simp [intOf]; omega
      | false =>
        have t1 := cmp_no hlv
        have HV := Lib.hid hlv
        clear hlv
        obtain ⟨sp0, sp1, sp2, sp3, sq0, sq1, sq2, sq3⟩ := two_of HW.out (p := h) (q := a) (by have := HD.out; omega) (by have := HD.out; omega)
        have HCM := Lib.hid (fun (u : Sub (wr).heap.size wr) => byAt_B d[h]! d[a]! u.w)
        go_wp2
        refine wp_region_below (by kernel_rfl) (by kernel_rfl) ?_
        repeat (go_big_quiet_step ((go_at_call 36; exact Sub.ofB _ (by simp) (HCM.out _))))
        refine wpQuiet_nil ?_
        rintro w2 ⟨⟨_, hb2⟩, rfl⟩
        have HW2 := Lib.hid ((HW.out).below hb2)
        clear sp0 sp1 sp2 sp3 sq0 sq1 sq2 sq3 hb2
        go_wp2
        go_roundw
        case rel => exact ⟨i, h, rfl, rfl, i1, by omega, by omega, HW2.out, HP.out, fun _ => HV.out⟩
        case measure => simp [intOf]; omega
    · obtain rfl : i = j := by omega
      go_wp2
      go_loopw [13] (fun vk wk => ∃ (k : Nat) (dk : Array Cg), vk = .int .i64 k ∧ a ≤ k ∧ k + 1 ≤ i ∧ SWR encC 4 w0 blk dk wk ∧ dk.size = n ∧ RotAt a (a + 1) (k + 1) d dk) (fun vk _ => i - (intOf vk).toNat)
      case atStart => exact ⟨a, d, rfl, by omega, by omega, HW.out, HD.out, RotAt.none a (a + 1) (a + 1) d (Or.inr ⟨rfl, by omega⟩)⟩
      case round =>
        obtain ⟨k, dk, rfl, k1, k2, hS, hz, hR⟩ := hrel
        have HZ := Lib.hid hz
        have HR := Lib.hid hR
        have HK := Lib.hid hS
        clear hS hz hR
        by_cases hk : k + 1 < i
        · obtain ⟨q, hq⟩ : ∃ q : Nat, q = k + 1 := ⟨_, rfl⟩
          have eq : (k : Int) + 1 = (q : Int) := by omega
          have p1 : (0 : Int) ≤ (k : Int) := by omega
          have p2 : (k : Int) < (n : Int) := by omega
          have p3 : k < n := by omega
          have q1 : (0 : Int) ≤ (q : Int) := by omega
          have q2 : (q : Int) < (n : Int) := by omega
          have q3 : q < n := by omega
          have wq : IntKind.i64.wrap (q : Int) = (q : Int) := IntWalk.i64_in _ (by omega)
          have hpq : k < q := by omega
          have HQE := Lib.hid hq
          clear hq
          obtain ⟨pc0, pc1, pc2, pc3, pf0, pf1, pf2, pf3⟩ := cel4 HK.out (i := k) (by have := HZ.out; omega)
          obtain ⟨qc0, qc1, qc2, qc3, qf0, qf1, qf2, qf3⟩ := cel4 HK.out (i := q) (by have := HZ.out; omega)
          have HSW := Lib.hid (swap0 HK.out k q (by have := HZ.out; omega) (by have := HZ.out; omega))
          go_wp2
          go_region
          go_wp2
          go_roundw
          case rel => exact ⟨k + 1, swp dk k q, by go_num, by omega, by omega, HSW.out.drew, by rw [size_swp]; exact HZ.out, by rw [HQE.out]; exact rot_up HR.out k1 (by rw [HD.out]; omega)⟩
          case measure => simp [intOf]; omega
        · obtain rfl : i = k + 1 := by omega
          have e2 : ((k + 1 : Nat) : Int) - 1 = (k : Int) := by omega
          go_wp2
          go_end0
          exact ⟨rfl, dk, HK.out, HZ.out, merge_one swoC (by omega) jb HM.out.sr HP.out HQ.out HR.out⟩
set_option maxHeartbeats 4000000 in
set_option maxRecDepth 100000 in
/-- One element behind: it goes to its place. -/
theorem symM_last (S : SWR encC 4 w0 blk d w) (hd : d.size = n) (hn : n < 1000000000) (a m : Nat) (h2 : a + 2 ≤ m) (M : MPre n a m (m + 1) d) :
    Calls Tryd.prog 81 #[.slice (some ⟨blk, 0, none⟩) n cap, .int .i64 a, .int .i64 m, .int .i64 ((m + 1 : Nat) : Int), .func (.func 36) #[] #[]] w (KPost w0 blk n (fun d' => Merged ltC a (m + 1) d d')) := by
  have HS := Lib.hid S
  have HD := Lib.hid hd
  have HM := Lib.hid M
  have bn := M.bn
  clear S hd
  have e1 : ((m + 1 : Nat) : Int) = (m : Int) + 1 := by omega
  rw [e1]
  clear e1
  have c0 : ((m : Int) - (a : Int) == 1) = false := by rw [beq_eq_false_iff_ne]; omega
  have c1 : ((m : Int) + 1 - (m : Int) == 1) = true := by rw [beq_iff_eq]; omega
  have a1 : (0 : Int) ≤ (m : Int) := by omega
  have a2 : (m : Int) < (n : Int) := by omega
  have a3 : m < n := by omega
  go_enter Tryd.func81, Tryd.ntmps81
  go_wp2
  go_loopw [14, 15] (fun vi vj wr => ∃ (i j : Nat), vi = .int .i64 i ∧ vj = .int .i64 j ∧ a ≤ i ∧ i ≤ j ∧ j ≤ m ∧ SWR encC 4 w0 blk d wr ∧
    (a < i → ltC d[m]! d[i - 1]! = false) ∧ (j < m → ltC d[m]! d[j]! = true)) (fun vi vj _ => (intOf vj).toNat - (intOf vi).toNat)
  case atStart => exact ⟨a, m, rfl, rfl, by omega, by omega, by omega, HS.out, fun h => by omega, fun h => by omega⟩
  case round =>
    obtain ⟨i, j, rfl, rfl, i1, ij, jb, hS, hp, hq⟩ := hrel
    have HW := Lib.hid hS
    have HP := Lib.hid hp
    have HQ := Lib.hid hq
    clear hS hp hq
    by_cases hij : i < j
    · obtain ⟨h, hh⟩ : ∃ h : Nat, h = (i + j) / 2 := ⟨_, rfl⟩
      have h1 : i ≤ h := by omega
      have h2 : h < j := by omega
      have h3 : (0 : Int) ≤ (h : Int) := by omega
      have h4 : (h : Int) < (n : Int) := by omega
      have h5 : h < n := by omega
      have eh : ((i : Int) + (j : Int)) / 2 = (h : Int) := by omega
      have HH := Lib.hid hh
      clear hh
      cases hlv : ltC d[m]! d[h]! with
      | false =>
        have t1 := cmp_no hlv
        have HV := Lib.hid hlv
        clear hlv
        obtain ⟨sp0, sp1, sp2, sp3, sq0, sq1, sq2, sq3⟩ := two_of HW.out (p := m) (q := h) (by have := HD.out; omega) (by have := HD.out; omega)
        have HCM := Lib.hid (fun (u : Sub (wr).heap.size wr) => byAt_B d[m]! d[h]! u.w)
        go_wp2
        refine wp_region_below (by kernel_rfl) (by kernel_rfl) ?_
        repeat (go_big_quiet_step ((go_at_call 36; exact Sub.ofB _ (by simp) (HCM.out _))))
        refine wpQuiet_nil ?_
        rintro w2 ⟨⟨_, hb2⟩, rfl⟩
        have HW2 := Lib.hid ((HW.out).below hb2)
        clear sp0 sp1 sp2 sp3 sq0 sq1 sq2 sq3 hb2
        go_wp2
        go_roundw
        case rel => exact ⟨h + 1, j, by go_num, rfl, by omega, by omega, jb, HW2.out, fun _ => HV.out, HQ.out⟩
        case measure => simp [intOf]; omega
      | true =>
        have t1 := cmp_yes hlv
        have HV := Lib.hid hlv
        clear hlv
        obtain ⟨sp0, sp1, sp2, sp3, sq0, sq1, sq2, sq3⟩ := two_of HW.out (p := m) (q := h) (by have := HD.out; omega) (by have := HD.out; omega)
        have HCM := Lib.hid (fun (u : Sub (wr).heap.size wr) => byAt_B d[m]! d[h]! u.w)
        go_wp2
        refine wp_region_below (by kernel_rfl) (by kernel_rfl) ?_
        repeat (go_big_quiet_step ((go_at_call 36; exact Sub.ofB _ (by simp) (HCM.out _))))
        refine wpQuiet_nil ?_
        rintro w2 ⟨⟨_, hb2⟩, rfl⟩
        have HW2 := Lib.hid ((HW.out).below hb2)
        clear sp0 sp1 sp2 sp3 sq0 sq1 sq2 sq3 hb2
        go_wp2
        go_roundw
        case rel => exact ⟨i, h, rfl, rfl, i1, by omega, by omega, HW2.out, HP.out, fun _ => HV.out⟩
        case measure => simp [intOf]; omega
    · obtain rfl : i = j := by omega
      go_wp2
      go_loopw [17] (fun vk wk => ∃ (k : Nat) (dk : Array Cg), vk = .int .i64 k ∧ i ≤ k ∧ k ≤ m ∧ SWR encC 4 w0 blk dk wk ∧ dk.size = n ∧ RotAt k m (m + 1) d dk) (fun vk _ => (intOf vk).toNat - i)
      case atStart => exact ⟨m, d, rfl, by omega, by omega, HW.out, HD.out, RotAt.none m m (m + 1) d (Or.inl ⟨rfl, by omega⟩)⟩
      case round =>
        obtain ⟨k, dk, rfl, k1, k2, hS, hz, hR⟩ := hrel
        have HZ := Lib.hid hz
        have HR := Lib.hid hR
        have HK := Lib.hid hS
        clear hS hz hR
        by_cases hk : i < k
        · obtain ⟨q, hq⟩ : ∃ q : Nat, k = q + 1 := ⟨k - 1, by omega⟩
          have eq : (k : Int) - 1 = (q : Int) := by omega
          have p1 : (0 : Int) ≤ (k : Int) := by omega
          have p2 : (k : Int) < (n : Int) := by omega
          have p3 : k < n := by omega
          have q1 : (0 : Int) ≤ (q : Int) := by omega
          have q2 : (q : Int) < (n : Int) := by omega
          have q3 : q < n := by omega
          have wq : IntKind.i64.wrap (q : Int) = (q : Int) := IntWalk.i64_in _ (by omega)
          have hpq : q < k := by omega
          have HQE := Lib.hid hq
          clear hq
          obtain ⟨pc0, pc1, pc2, pc3, pf0, pf1, pf2, pf3⟩ := cel4 HK.out (i := k) (by have := HZ.out; omega)
          obtain ⟨qc0, qc1, qc2, qc3, qf0, qf1, qf2, qf3⟩ := cel4 HK.out (i := q) (by have := HZ.out; omega)
          have HSW := Lib.hid (swap0 HK.out k q (by have := HZ.out; omega) (by have := HZ.out; omega))
          go_wp2
          go_region
          go_wp2
          go_roundw
          case rel => exact ⟨q, swp dk k q, by go_num, by have := HQE.out; omega, by omega, HSW.out.drew, by rw [size_swp]; exact HZ.out, by rw [HQE.out]; exact rot_down (by rw [← HQE.out]; exact HR.out) (by rw [← HQE.out]; exact k2) (by rw [HD.out]; omega)⟩
          case measure => simp [intOf]; omega
        · obtain rfl : i = k := by omega
          go_wp2
          go_end0
          exact ⟨rfl, dk, HK.out, HZ.out, merge_last swoC i1 jb HM.out.sl HP.out HQ.out HR.out⟩
end
end Go.Proofs.YtainelkenkgppaaDoor
