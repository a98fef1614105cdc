/- Guards: numbers that are taken once. -/
import Derived.Test.YtnnocbelgfhecaaGreatDoorTwh
import Derived.Test.YtnnocbelgfhecaaGreatDoorTrv
import Derived.Maps.OwnSet
import Derived.Maps.Views
set_option linter.unusedSimpArgs false
namespace Go.Proofs.YtnnocbelgfhecaaGreatDoor
open Go.ChangeShapes Go.WideShapes Go.ChangeAt Go.RowKit Go.Lott
def boolR : Value → Option (DataW Unit × List MemPlace)
  | .bool b => some (.lit (.bool b), [])
  | _ => none
theorem boolR_inv {v : Value} {b : Bool} {ps : List MemPlace} (h : boolR v = some (.lit (.bool b), ps)) : v = .bool b := by
  unfold boolR at h
  split at h
  · simp at h; rw [h.1]
  · cases h
def bF : DataW Unit := .lit (.bool false)
theorem keyK : Go.Maps.Keyed Tryz.prog 3 := Go.Maps.int_keyed Tryz.underlying3
theorem wfI {k : Int} (h0 : 0 ≤ k) (h1 : k ≤ 2000000) : (Lit.int .i64 k).wf = true := WalkArith.wf_i64 (by omega)
/-- A guard at block gb, its map at block mb: at most the numbers of U are taken. -/
structure Grd (w : World) (gb mb c : Nat) (U : Int → Prop) : Prop where
  ex : ∃ (low : Int) (n : Nat) (D : DataW Unit) (La : Int → Bool), 0 ≤ low ∧ low ≤ 1000 ∧ n ≤ c ∧ Cel w gb #[.int .i64 1048576, .int .i64 low, .map (some mb)] 93 ∧ w.ownsMap Tryz.prog 3 boolR mb n D ∧
    (∀ k, 0 ≤ k → k ≤ 2000000 → D.atKey (.int .i64 k) bF = .lit (.bool (La k))) ∧ (∀ k, 1 ≤ k → k ≤ low ∨ La k = true → U k) ∧ (∀ k, La k = true → k ≤ 1000)
theorem zeroB (w : World) : (zeroValue 4).run Tryz.prog w = .ok (.bool false) w := by kernel_rfl
theorem look_b {w : World} {mb n : Nat} {D : DataW Unit} {k : Int} {b : Bool} (h : w.ownsMap Tryz.prog 3 boolR mb n D) (h0 : 0 ≤ k) (h1 : k ≤ 2000000) (hk : D.atKey (.int .i64 k) bF = .lit (.bool b)) :
    (Instr.lookup 91 (.map (some mb)) (.int .i64 k) false).run Tryz.prog w = .ok (.bool b) w := by
  obtain ⟨es, clock, hb, F, _, rfl⟩ := h
  rcases Go.Maps.fit_look false keyK Tryz.underlying91 (zeroB w) hb F (Go.Maps.keyOf_int_mk Tryz.underlying3 (wfI h0 h1)) with ⟨hrun, _, hat⟩ | ⟨e0, y, _, _, hrun, hRv, hat, _⟩
  · have h2 := hat bF
    rw [hk] at h2
    have : b = false := by simpa [bF] using h2
    subst this
    simpa using hrun
  · have h2 := hat bF
    rw [hk] at h2
    have h3 : boolR e0.val = some (.lit (.bool b), y.2) := by rw [hRv, h2]
    rw [boolR_inv h3] at hrun
    simpa using hrun
set_option maxRecDepth 100000 in
theorem seen_no (gb mb c : Nat) (U : Int → Prop) (n : Int) (w : World) (h : Grd w gb mb c U) (h0 : 1 ≤ n) (h1 : n ≤ 1000000) (hn : ¬ U n) : Calls Tryz.prog 82 #[.pointer (some ⟨gb, 0, none⟩), .int .i64 n] w (RetS (.bool false) w) := by
  obtain ⟨low, m, D, La, l0, l1, _, hc, hm, hat, hU, hb⟩ := h.ex
  have hlow : low < n := by
    rcases Int.lt_or_le low n with c | c
    · exact c
    · exact absurd (hU n h0 (.inl c)) hn
  have hla : La n = false := by
    cases c : La n with
    | false => rfl
    | true => exact absurd (hU n h0 (.inr c)) hn
  have hlk := look_b hm (k := n) (by omega) (by omega) (by rw [hat n (by omega) (by omega), hla])
  have c0 := hc.cell 0
  have c1 := hc.cell 1
  have c2 := hc.cell 2
  have cl := hc.lt
  simp at c0 c1 c2
  clear h hc hm hat hU hb hn hla
  go_enter Tryz.func82, Tryz.ntmps82
  go_wp2
  go_ret
  exact ⟨ret_bool (decide_eq_false (by omega)), rfl⟩
theorem store_b {w : World} {mb m : Nat} {D : DataW Unit} {n : Int} (h : w.ownsMap Tryz.prog 3 boolR mb m D) (hm : m ≤ 1000000) (h0 : 0 ≤ n) (h1 : n ≤ 2000000) :
    ∃ w', (Instr.mapUpdate 91 (.map (some mb)) (.int .i64 n) (.bool true)).run Tryz.prog w = .ok () w' ∧ w'.ownsMap Tryz.prog 3 boolR mb (m + 1) (D.put (.int .i64 n) (.lit (.bool true))) ∧ w.grownBy w' (some mb) := by
  obtain ⟨w', h1, h2, h3⟩ := h.store keyK Tryz.underlying91 (by unfold maxLen; omega) (Go.Maps.keyOf_int_mk Tryz.underlying3 (wfI h0 h1)) (val := .bool true) (d := .lit (.bool true)) (ps := []) rfl
  exact ⟨w', h1, h2, h3.grown⟩
theorem drop_b {w : World} {mb m : Nat} {D : DataW Unit} {n : Int} (h : w.ownsMap Tryz.prog 3 boolR mb m D) (h0 : 0 ≤ n) (h1 : n ≤ 2000000) (ty : TypeId) :
    ∃ w', (Builtin.delete_ #[91, 3] ty #[.map (some mb), .int .i64 n]).run Tryz.prog w = .ok (.tuple #[]) w' ∧ w'.ownsMap Tryz.prog 3 boolR mb m (D.del (.int .i64 n)) ∧ w.grownBy w' (some mb) := by
  obtain ⟨w', h1, h2, h3⟩ := h.drop keyK Tryz.underlying91 (Go.Maps.keyOf_int_mk Tryz.underlying3 (wfI h0 h1)) ty
  exact ⟨w', h1, h2, h3.grown⟩
theorem Grd.drewN {w : World} {gb mb c : Nat} {U : Int → Prop} (h : Grd w gb mb c U) (j : Nat) : Grd (w.drewN j) gb mb c U := ⟨h.ex⟩
theorem Fr.drewN {τ : Rl} {w w1 : World} (h : Fr τ w w1) (j : Nat) : Fr τ w (w1.drewN j) := ⟨h.os, h.tape, h.output, h.size, h.block⟩
/-- The roles of a guard's two blocks. -/
def gRl (gb mb : Nat) : Rl := fun b => if b = gb ∨ b = mb then some (0, 0) else none
theorem gRl_none {gb mb b : Nat} (h : gRl gb mb b = none) : b ≠ gb ∧ b ≠ mb := by
  unfold gRl at h
  split at h
  · cases h
  · rename_i c; exact ⟨fun e => c (.inl e), fun e => c (.inr e)⟩
set_option maxHeartbeats 2000000 in
set_option maxRecDepth 100000 in
theorem take_any (gb mb c : Nat) (U : Int → Prop) (n : Int) (w : World) (h : Grd w gb mb c U) (h0 : 1 ≤ n) (h1 : n ≤ 1000) (hn : ¬ U n) (hne : gb ≠ mb) (hcc : c ≤ 1000000) :
    Calls Tryz.prog 55 #[.pointer (some ⟨gb, 0, none⟩), .int .i64 n] w fun e w' => e = .returned (.int .i64 0) ∧ Grd w' gb mb (c + 1) (fun k => U k ∨ k = n) ∧ Fr (gRl gb mb) w w' := by
  have HS := Lib.hid (seen_no gb mb c U n w h h0 (by omega) hn)
  obtain ⟨low, m, D, La, l0, l1, hmm, hc, hm, hat, hU, hb⟩ := h.ex
  have hlow : low < n := by
    rcases Int.lt_or_le low n with c | c
    · exact c
    · exact absurd (hU n h0 (.inl c)) hn
  obtain ⟨W1, hrun, hm1, hg1⟩ := store_b hm (Nat.le_trans hmm hcc) (n := n) (by omega) (by omega)
  have HM := Lib.hid hm1
  have HC1 := Lib.hid (show Cel W1 gb _ _ from (hg1.block gb hc.lt (fun e => hne (by cases e; rfl))).trans hc)
  have HG := Lib.hid hg1
  have HAT := Lib.hid hat
  have HU := Lib.hid hU
  have HB := Lib.hid hb
  have HTD := Lib.hid hm.isMap
  have c0 := hc.cell 0
  have c2 := hc.cell 2
  have cl := hc.lt
  simp at c0 c2
  clear h hc hm hat hU hb hn hm1 hg1
  go_enter Tryz.func55, Tryz.ntmps55
  go_wp2_with (go_at_call 82; (with_reducible refine HS.out.mono ?_); rintro e w' ⟨rfl, rfl⟩)
  go_loopw [25] (fun _ wr => Grd wr gb mb (c + 1) (fun k => U k ∨ k = n) ∧ Fr (gRl gb mb) w wr) (fun _ wr => (1000 - intOf ((wr.cell? ⟨gb, 1, none⟩).getD undef)).toNat)
  case atStart =>
    refine ⟨⟨low, m + 1, D.put (.int .i64 n) (.lit (.bool true)), fun k => if k = n then true else La k, l0, l1, by omega, HC1.out, HM.out, fun k k0 k1 => ?_, fun k k0 hk => ?_, fun k hk => ?_⟩, ?_⟩
    · by_cases q : k = n
      · subst q
        rw [Go.Maps.atKey_put_same HTD.out (by simp [WideAt.IsKeyLit])]; simp
      · rw [Go.Maps.atKey_put_other (by simp; exact q), HAT.out k k0 k1]; simp [q]
    · by_cases q : k = n
      · exact .inr q
      · rcases hk with hk | hk
        · exact .inl (HU.out k k0 (.inl hk))
        · simp [q] at hk; exact .inl (HU.out k k0 (.inr hk))
    · by_cases q : k = n
      · omega
      · simp [q] at hk; exact HB.out k hk
    · exact (Fr.refl _ _).grown HG.out (fun k hk => .inl (by cases hk; simp [gRl]))
  case round =>
    obtain ⟨hgr, hfr⟩ := hrel
    obtain ⟨lo, m2, D2, L2, k0, k1, kmm, hc, hm, hat, hU2, hb2⟩ := hgr.ex
    have hlk := look_b hm (k := lo + 1) (by omega) (by omega) (hat _ (by omega) (by omega))
    have hlk2 := fun j => look_b (w := wr.drewN j) hm (k := lo + 1) (by omega) (by omega) (hat _ (by omega) (by omega))
    have hlk3 := look_b (w := wr.drew) hm (k := lo + 1) (by omega) (by omega) (hat _ (by omega) (by omega))
    have d1 := hc.cell 1
    have d2 := hc.cell 2
    have df := hc.free 1
    have dl := hc.lt
    simp at d1 d2
    have HC := Lib.hid hc
    have HM2 := Lib.hid hm
    have HAT2 := Lib.hid hat
    have HU2 := Lib.hid hU2
    have HB2 := Lib.hid hb2
    have HFR := Lib.hid hfr
    have HGR := Lib.hid hgr
    clear hgr hfr hc hm hat hU2 hb2 HS HAT HU HB HTD hrun c0 c2 cl
    cases hL : L2 (lo + 1) with
    | true =>
      rw [hL] at hlk hlk2 hlk3
      have hlo := HB2.out _ hL
      have HLT := Lib.hid hL
      clear hL
      go_wp2
      go_quiet (fail)
      go_wp2
      obtain ⟨W3, hW3⟩ : ∃ W3, W3 = (wr.drewN nq).setCell ⟨gb, 1, none⟩ (.int .i64 (lo + 1)) := ⟨_, rfl⟩
      have hc3 : Cel W3 gb #[.int .i64 1048576, .int .i64 (lo + 1), .map (some mb)] 93 := by
        rw [hW3]
        have := (show Cel (wr.drewN nq) gb _ _ from HC.out).set 1 (.int .i64 (lo + 1))
        simpa using this
      have hm3 : W3.ownsMap Tryz.prog 3 boolR mb m2 D2 := by
        rw [hW3]
        exact World.ownsMap.setCell (w := wr.drewN nq) HM2.out (a := ⟨gb, 1, none⟩) (fun e => hne e.symm) _
      have hf3 : Fr (gRl gb mb) w W3 := by
        rw [hW3]
        exact Fr.setCell (Fr.drewN HFR.out nq) (a := ⟨gb, 1, none⟩) (.inl (by simp [gRl])) _
      obtain ⟨W4, hdr, hm4, hg4⟩ := drop_b (w := W3.drew) hm3 (n := lo + 1) (by omega) (by omega) 0
      have hc4 : Cel W4 gb #[.int .i64 1048576, .int .i64 (lo + 1), .map (some mb)] 93 := (hg4.block gb hc3.lt (fun e => hne (by cases e; rfl))).trans hc3
      have HC4 := Lib.hid hc4
      have HM4 := Lib.hid hm4
      have HF4 := Lib.hid (show Fr (gRl gb mb) w W4 from Fr.grown (Fr.drewN hf3 1) hg4 (fun k hk => .inl (by cases hk; simp [gRl])))
      rw [← hW3]
      clear d1 d2 df dl hlk hlk2 hlk3
      have d1 := hc3.cell 1
      have d2 := hc3.cell 2
      have dl := hc3.lt
      simp at d1 d2
      clear hc3 hm3 hf3 hc4 hm4 hg4 hW3
      refine wp_region_tail 8 (by kernel_rfl) (by kernel_rfl) ?_
      simp only [List.take_succ_cons, List.take_zero, List.drop_succ_cons, List.drop_zero]
      repeat (go_big_quiet_step (fail))
      refine wpQuiet_nil ?_
      go_wp2
      go_roundw
      case rel =>
        refine ⟨⟨lo + 1, m2, D2.del (.int .i64 (lo + 1)), fun k => if k = lo + 1 then false else L2 k, by omega, by omega, kmm, HC4.out, HM4.out, fun k k0 k1 => ?_, fun k k0 hk => ?_, fun k hk => ?_⟩, HF4.out⟩
        · by_cases q : k = lo + 1
          · subst q
            rw [Go.Maps.atKey_del_same]; simp [bF]
          · rw [Go.Maps.atKey_del_other (by simp; exact q), HAT2.out k k0 k1]; simp [q]
        · rcases hk with hk | hk
          · by_cases q : k ≤ lo
            · exact HU2.out k k0 (.inl q)
            · obtain rfl : k = lo + 1 := by omega
              exact HU2.out _ k0 (.inr HLT.out)
          · by_cases q : k = lo + 1
            · simp [q] at hk
            · simp [q] at hk; exact HU2.out k k0 (.inr hk)
        · by_cases q : k = lo + 1
          · simp [q] at hk
          · simp [q] at hk; exact HB2.out k hk
      case measure =>
        have e1 : wr.cell? ⟨gb, 1, none⟩ = some (.int .i64 lo) := HC.out.cell 1
        have e2 : W4.cell? ⟨gb, 1, none⟩ = some (.int .i64 (lo + 1)) := HC4.out.cell 1
        rw [e1, e2]
        simp [intOf]
        omega
    | false =>
      rw [hL] at hlk hlk2 hlk3
      clear hL
      go_wp2
      go_quiet (fail)
      go_wp2
      go_ret
      exact ⟨rfl, HGR.out.drewN _, Fr.drewN HFR.out _⟩
theorem Grd.mono {w : World} {gb mb c c' : Nat} {U U' : Int → Prop} (h : Grd w gb mb c U) (hc : c ≤ c') (hU : ∀ k, U k → U' k) : Grd w gb mb c' U' := by
  obtain ⟨low, m, D, La, l0, l1, hmm, hcl, hm, hat, hu, hb⟩ := h.ex
  exact ⟨low, m, D, La, l0, l1, Nat.le_trans hmm hc, hcl, hm, hat, fun k k0 hk => hU k (hu k k0 hk), hb⟩
theorem Grd.lt {w : World} {gb mb c : Nat} {U : Int → Prop} (h : Grd w gb mb c U) : gb < w.heap.size ∧ mb < w.heap.size := by
  obtain ⟨low, m, D, La, l0, l1, hmm, hcl, hm, _⟩ := h.ex
  exact ⟨hcl.lt, hm.lt⟩
theorem Grd.fr {w w1 : World} {gb mb c : Nat} {U : Int → Prop} {τ : Rl} (h : Grd w gb mb c U) (hf : Fr τ w w1) (h1 : τ gb = none) (h2 : τ mb = none) : Grd w1 gb mb c U := by
  obtain ⟨low, m, D, La, l0, l1, hmm, hcl, hm, r⟩ := h.ex
  have hlt := hm.lt
  refine ⟨low, m, D, La, l0, l1, hmm, hcl.fr hf h1, ?_, r⟩
  obtain ⟨es, clock, hb, q⟩ := hm
  exact ⟨es, clock, (hf.block mb hlt h2).trans hb, q⟩
theorem makeMapI (w : World) : (Instr.makeMap 91 none).run Tryz.prog w = .ok (.map (some w.heap.size)) (w.alloc (.map #[] 0)) := run_makeMap 91 w
theorem newGuard_any (w : World) : Calls Tryz.prog 16 #[.int .i64 1048576] w fun e w' => e = .returned (.pointer (some ⟨w.heap.size + 1, 0, none⟩)) ∧ Grd w' (w.heap.size + 1) w.heap.size 0 (fun _ => False) ∧ Below w.heap.size w w' ∧ w'.heap.size = w.heap.size + 2 := by
  have hmm := @run_makeMap Tryz.prog
  go_enter Tryz.func16, Tryz.ntmps16
  go_wp2
  rw [show min (max (1048576 : Int) 1) 1048576 = 1048576 from by decide]
  go_ret
  have h1 := Cel.new (w.alloc (.map #[] 0)) #[.int .i64 1048576, .int .i64 0, .map (some w.heap.size)] 93
  rw [show (w.alloc (.map #[] 0)).heap.size = w.heap.size + 1 by simp] at h1
  refine ⟨rfl, ⟨0, 0, .map [], fun _ => false, by omega, by omega, Nat.le_refl _, h1, ?_, fun k _ _ => ?_, fun k k0 hk => ?_, fun k hk => by cases hk⟩, ((Below.refl _ _).alloc (Nat.le_refl _) _).alloc (by simp) _, by simp⟩
  · exact (World.ownsMap_made w _ _ _).alloc _
  · rfl
  · rcases hk with hk | hk
    · omega
    · cases hk
end Go.Proofs.YtnnocbelgfhecaaGreatDoor
