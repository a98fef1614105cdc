/- The law's three terminals. -/
import Derived.Test.YtnnocbelgfhecaaGreatDoorTxh
import Derived.Test.YtnnocbelgfhecaaGreatDoorTxk
set_option linter.unusedSimpArgs false
namespace Go.Lott.Tp
theorem Inv.at {S : Sy} {nums : List (Nat × Nat)} {r m T i : Nat} (h : Inv S nums r m T i) {T' i' : Nat} (hT : T ≤ T') (hi : i ≤ i') : Inv S nums r m T' i' where
  nd := h.nd
  ln := by have := h.ln; omega
  nx := fun k hk => by have := h.nx k hk; omega
  lt := h.lt
  rg := fun t ht => by have := h.rg t ht; exact ⟨this.1, this.2.1, by omega⟩
  wt := fun k hk t ht => by have := h.wt k hk t ht; exact ⟨this.1, this.2.1, by omega, this.2.2.2⟩
  rd := h.rd
  wd := h.wd
  dj := h.dj
  w5 := h.w5
  on := h.on
  ct := h.ct
end Go.Lott.Tp
namespace Go.Proofs.YtnnocbelgfhecaaGreatDoor
open Go.ChangeShapes Go.WideShapes Go.ChangeAt Go.RowKit Go.Lott
/-- The array of the terminals, the first j of them laid. -/
def alC (q : Nat → Nat) (j : Nat) : Array Value := #[.pointer (if 0 < j then some ⟨q 0, 0, none⟩ else none), .pointer (if 1 < j then some ⟨q 1, 0, none⟩ else none), .pointer (if 2 < j then some ⟨q 2, 0, none⟩ else none)]
theorem alC_set (q : Nat → Nat) (j n : Nat) (hj : j < 3) : (alC q j).setIfInBounds j (.pointer (some ⟨n, 0, none⟩)) = alC (fun k => if k = j then n else q k) (j + 1) := by
  rcases (show j = 0 ∨ j = 1 ∨ j = 2 by omega) with rfl | rfl | rfl <;> simp [alC]
theorem alC_congr {q q' : Nat → Nat} {j : Nat} (h : ∀ k, k < j → q k = q' k) : alC q j = alC q' j := by
  unfold alC
  rcases (show j = 0 ∨ 0 < j by omega) with c | c
  · subst c; rfl
  · rw [if_pos c, if_pos c, h 0 c]
    rcases (show j = 1 ∨ 1 < j by omega) with c1 | c1
    · subst c1; rfl
    · rw [if_pos c1, if_pos c1, h 1 c1]
      rcases (show j = 2 ∨ 2 < j by omega) with c2 | c2
      · subst c2; rfl
      · rw [if_pos c2, if_pos c2, h 2 c2]
theorem gc_one {B : Nat} {w : World} {v : Value} (h : IsTierF B w v) : ((gcs v).all fun x => x.oneCell') = true := by
  obtain ⟨b, o, c, rfl, _⟩ := h
  kernel_rfl
theorem wpList_load_row_g {P : Program} {ops : Array Oper} {rest : List Oper} {o : Oper} {a : Act} {w : World} {Q : Exit → Act → World → Prop} (hw : Region.wanted o (yielded ops a.tmps) = true) (ty : TypeId) (x : Operand) (ho : o.op = .load ty x)
    (g : Nat) (hx : a.eval x = .pointer (some ⟨g, 0, none⟩)) (t : TypeId) (cs : Array Value) (fr : Nat × Nat) (d : TypeDesc) (hg : w.heap[g]? = some (.cells cs t fr))
    (hu : P.underlying ty = some d) (hd : (match d with | .struct _ | .array _ _ => true | _ => false) = true) (hi : (P.info? ty).map (·.size) = some cs.size)
    (h : wpList P ops Q rest (a.put o.dst (.agg cs)) w) : wpList P ops Q (o :: rest) a w :=
  wpList_step fun K hK => by rw [if_pos hw]; exact wp_load_row ty x ho g hx t cs fr d hg hu hd hi (hK _ _ h)
theorem mkB_inj {a b c d : Nat} (h1 : 1 ≤ a ∧ a ≤ 3 ∧ 1 ≤ b ∧ b ≤ 100) (h2 : 1 ≤ c ∧ c ≤ 3 ∧ 1 ≤ d ∧ d ≤ 100) (e : mkB (a : Int) (b : Int) = mkB (c : Int) (d : Int)) : (a, b) = (c, d) := by
  have v1 : Num.tkV (a : Int) (b : Int) = true := (Num.tkV_iff _ _).2 ⟨by omega, by omega, by omega, by omega⟩
  have v2 : Num.tkV (c : Int) (d : Int) = true := (Num.tkV_iff _ _).2 ⟨by omega, by omega, by omega, by omega⟩
  rw [(mk_yes v1).1, (mk_yes v2).1] at e
  have e2 : Num.mkL a b = Num.mkL c d := (bsL_list _).symm.trans ((congrArg (fun b : ByteArray => b.data.toList) e).trans (bsL_list _))
  obtain ⟨a1, a2, _⟩ := Num.mk_fine v1
  obtain ⟨b1, b2, _⟩ := Num.mk_fine v2
  have h3 := a1.symm.trans ((congrArg Num.tkT e2).trans b1)
  have h4 := a2.symm.trans ((congrArg Num.tkS e2).trans b2)
  rw [show a = c by omega, show b = d by omega]
theorem ix3 (a b c : Value) (w : World) : (Instr.index 34 (.agg #[a, b, c]) (.int .i64 0)).run Tryz.prog w = .ok a w ∧ (Instr.index 34 (.agg #[a, b, c]) (.int .i64 1)).run Tryz.prog w = .ok b w ∧ (Instr.index 34 (.agg #[a, b, c]) (.int .i64 2)).run Tryz.prog w = .ok c w := ⟨by kernel_rfl, by kernel_rfl, by kernel_rfl⟩
def nuK (k : Nat × Nat) : Value := .string (mkB k.1 k.2)
/-- A row's cell of the law's list. -/
theorem IsRowsK.at {w : World} {a : Option Addr} {len : Nat} {z : Nat → Nat → Int} (h : IsRowsK [.u8, .u8, .u8, .u8, .u16] w a len z) {i : Nat} (hi : i < len) : ∃ b o, a = some ⟨b, o, none⟩ ∧ b < w.heap.size ∧
    (w.cell? ⟨b, o + i * 5, none⟩ = some (.int .u8 (z i 0)) ∧ 0 ≤ z i 0 ∧ z i 0 ≤ 255) ∧ (w.cell? ⟨b, o + i * 5 + 1, none⟩ = some (.int .u8 (z i 1)) ∧ 0 ≤ z i 1 ∧ z i 1 ≤ 255) ∧
    (w.cell? ⟨b, o + i * 5 + 2, none⟩ = some (.int .u8 (z i 2)) ∧ 0 ≤ z i 2 ∧ z i 2 ≤ 255) ∧ (w.cell? ⟨b, o + i * 5 + 3, none⟩ = some (.int .u8 (z i 3)) ∧ 0 ≤ z i 3 ∧ z i 3 ≤ 255) ∧
    (w.cell? ⟨b, o + i * 5 + 4, none⟩ = some (.int .u16 (z i 4)) ∧ 0 ≤ z i 4 ∧ z i 4 ≤ 65535) := by
  rcases h with h | ⟨b, o, h1, h2, h3, h4⟩
  · omega
  · have k8 : ∀ x : Int, (Lit.int .u8 x).wf = true → 0 ≤ x ∧ x ≤ 255 := fun x hx => by simp [Lit.wf] at hx; exact hx
    have k16 : ∀ x : Int, (Lit.int .u16 x).wf = true → 0 ≤ x ∧ x ≤ 65535 := fun x hx => by simp [Lit.wf] at hx; exact hx
    have e0 := h4 i 0 .u8 hi rfl
    have e1 := h4 i 1 .u8 hi rfl
    have e2 := h4 i 2 .u8 hi rfl
    have e3 := h4 i 3 .u8 hi rfl
    have e4 := h4 i 4 .u16 hi rfl
    exact ⟨b, o, h1, h2, ⟨e0.1, k8 _ e0.2⟩, ⟨e1.1, k8 _ e1.2⟩, ⟨e2.1, k8 _ e2.2⟩, ⟨e3.1, k8 _ e3.2⟩, ⟨e4.1, k16 _ e4.2⟩⟩
/-- Three new terminals beside a register with no tickets. -/
theorem ws_new {w3 w : World} {B p gb gc pm al : Nat} {τ : Rl} {key : Int} {v : Value} {cs : Array Value} {gs gm : Nat → Nat} {D : DataW Unit} {q : Nat → Nat} (h : RObj w3 B τ p key v [] 0 0 (fun _ _ => False) cs gb gc pm (.slice none 0 0) gs gm D) (hb : Below w3.heap.size w3 w)
    (hal : al = w3.heap.size) (hq : ∀ k, k < 3 → Cel w (q k) (teC (q k) (k + 1) key 1 true (.slice none 0 0) (.slice none 0 0)) 73 ∧ al < q k) (hne : ∀ k j, k < 3 → j < 3 → k ≠ j → q k ≠ q j) (ha : al < w.heap.size) :
    WS w B key p q Tp.sy0 (fun b => b = al) := by
  have hB : B ≤ al := by rw [hal]; exact Nat.le_trans (h.low p (by rw [h.tp]; simp)).1 (Nat.le_of_lt (h.low p (by rw [h.tp]; simp)).2)
  refine ⟨τ, fun k b => if b = q k then some (0, 0) else none, v, [], fun _ _ => False, cs, gb, gc, pm, _, gs, gm, D, {
    reg := rfl
    ro := h.below hb
    us := fun k n hu => hu.elim
    tm := fun k hk => ⟨_, _, {
      low := fun b hb => by
        split at hb
        · rename_i e; subst e; exact ⟨by have := (hq k hk).2; omega, (hq k hk).1.lt⟩
        · exact absurd rfl hb
      tq := by simp
      cp := (hq k hk).1
      wr := ⟨rfl, .inl ⟨rfl, rfl⟩⟩
      pr := ⟨rfl, .inl ⟨rfl, rfl⟩⟩
      wT := fun g hg => by cases hg
      pT := fun g hg => by cases hg }⟩
    d1 := fun k hk b hb => by
      split at hb
      · rename_i e; subst e
        exact Classical.byContradiction fun hc => by have := (h.low _ hc).2; have := (hq k hk).2; omega
      · exact absurd rfl hb
    d2 := fun k j hk hj hkj b hb => by
      split at hb
      · rename_i e; subst e
        rw [if_neg (hne k j hk hj hkj)]
      · exact absurd rfl hb
    z1 := fun b hz => by
      subst hz
      refine ⟨ha, Classical.byContradiction fun hc => by have := (h.low _ hc).2; omega, fun k hk => ?_⟩
      rw [if_neg (by have := (hq k hk).2; omega)]
    okR := fun t ht => by cases ht
    okW := fun k hk t ht => by cases ht }⟩
set_option maxHeartbeats 4000000 in
set_option maxRecDepth 100000 in
theorem topOnce_walk (a0 : Int) (a1 : Option Addr) (len1 cap1 : Nat) (z1 : Nat → Nat → Int) (W : World) (_ : (Lit.int .u64 a0).wf = true) (h1 : IsRowsK [.u8, .u8, .u8, .u8, .u16] W a1 len1 z1 ∧ len1 ≤ cap1) (hL : P10W W) :
    Calls Tryz.prog 3 #[.int .u64 a0, .slice a1 len1 cap1] W (RetB (.bool true) W) := by
  have HIN := Lib.hid h1.1
  have HLV := Lib.hid hL
  clear h1 hL
  go_enter Tryz.func3, Tryz.ntmps3
  go_upto_region 2 with (first
    | (go_at_call 4
       (with_reducible refine (lotto_any _).mono ?_)
       rintro e w1 ⟨v, rfl, hti, hb1⟩
       have HTI := Lib.hid hti
       have HONE := Lib.hid (gc_one hti)
       have HB1 := Lib.hid hb1
       clear hti hb1)
    | (refine wpList_store_row rfl 27 _ _ rfl w1.heap.size (gcs v) rfl rfl 27 _ (Cel.new w1 #[.string ⟨#[]⟩, .int .i64 0, .int .i64 0, .int .i64 0, .int .i64 0, .int .i64 0, .int .i64 0, .int .i64 0, .int .i64 0, .int .i64 0, .int .i64 0, .int .i64 0, .int .i64 0, .int .i64 0, .int .i64 0, .int .i64 0, .int .i64 0, .int .i64 0, .int .i64 0, .int .i64 0, .slice none 0 0, .slice none 0 0] 27) (by kernel_rfl) (by kernel_rfl) HONE.out ?_)
    | fail)
  obtain ⟨Wg, hWg⟩ : ∃ Wg, Wg = (w1.alloc (.cells #[.string ⟨#[]⟩, .int .i64 0, .int .i64 0, .int .i64 0, .int .i64 0, .int .i64 0, .int .i64 0, .int .i64 0, .int .i64 0, .int .i64 0, .int .i64 0, .int .i64 0, .int .i64 0, .int .i64 0, .int .i64 0, .int .i64 0, .int .i64 0, .int .i64 0, .int .i64 0, .int .i64 0, .slice none 0 0, .slice none 0 0] 27)).setRow w1.heap.size (gcs v) := ⟨_, rfl⟩
  rw [← hWg]
  have HG := Lib.hid (show Cel Wg w1.heap.size (gcs v) 27 by rw [hWg]; exact setRow_heap _ _ _ _ _ _ (Cel.new w1 _ 27))
  have hXg : Below w1.heap.size w1 Wg := by rw [hWg]; exact Below.row ((Below.refl _ _).alloc (Nat.le_refl _) _) (Nat.le_refl _) _
  have HTG := Lib.hid (HTI.out.tier.below hXg (Nat.le_refl _))
  have HBG := Lib.hid (HB1.out.trans (hXg.mono HB1.out.size))
  have hw1 := HB1.out.size
  obtain ⟨Gb, hGb⟩ : ∃ Gb, Gb = w1.heap.size := ⟨_, rfl⟩
  rw [← hGb] at HG hw1 ⊢
  have hGl : Gb < Wg.heap.size := HG.out.lt
  clear hWg hXg HTI HONE HB1 hGb
  obtain ⟨p, hp⟩ : ∃ p, p = Wg.heap.size := ⟨_, rfl⟩
  have HLP := Lib.hid (show Lv p Wg from ⟨Wg, HLV.out.grow HBG.out, by rw [hp]; exact Nat.le_refl _, Below.refl _ _⟩)
  have HNW := Lib.hid (show Calls Tryz.prog 5 #[.int .u64 a0] Wg fun e w' => ∃ cs, e = .returned (.pointer (some ⟨p, 0, none⟩)) ∧ RNew w' (p + 2) p (p + 1) a0 cs 33 ∧ Below p Wg w' by rw [hp]; exact new_any Wg a0)
  have HP := Lib.hid hp
  rw [← hp] at hGl
  clear hp HLV
  go_wp2_with (first
    | (go_at_call 5
       (with_reducible refine HNW.out.mono ?_)
       rintro e w2 ⟨cs, rfl, hrn, hb2⟩
       have HG2 := Lib.hid (HG.out.below hb2 hGl)
       have HB2 := Lib.hid hb2
       have HAD := Lib.hid (addR_any v w2 p p (p + 1) (p + 2) a0 cs hrn (Nat.le_refl _) (HTG.out.below hb2 (by rw [HP.out]; exact Nat.le_refl _)))
       clear hrn hb2)
    | (refine wpList_load_row_g (by rfl) 27 _ rfl Gb rfl _ _ _ _ HG2.out Tryz.underlying27 rfl (by kernel_rfl) ?_)
    | (go_at_call 6
       (with_reducible refine HAD.out.mono ?_)
       rintro e w3 ⟨rfl, τ, v', cs', gb, gc, gs, gm, D, hro, _, hb3⟩
       have HRO := Lib.hid hro
       have HB3 := Lib.hid (HB2.out.trans hb3)
       clear hro hb3)
    | fail)
  obtain ⟨al, hal⟩ : ∃ al, al = w3.heap.size := ⟨_, rfl⟩
  have HA := Lib.hid (show Cel (w3.alloc (.cells #[.pointer none, .pointer none, .pointer none] 34)) al (alC (fun _ => 0) 0) 34 by rw [hal]; exact Cel.new _ _ _)
  have HAL := Lib.hid hal
  have HGw := Lib.hid (HG.out.below HB3.out hGl)
  clear HG2 HAD HNW HB2
  rw [← hal]
  clear hal
  go_loopw [37] (fun vi wr => ∃ (j : Nat) (q : Nat → Nat), j ≤ 3 ∧ vi = .int .i64 j ∧ Cel wr al (alC q j) 34 ∧ (∀ k, k < j → Cel wr (q k) (teC (q k) (k + 1) a0 1 true (.slice none 0 0) (.slice none 0 0)) 73 ∧ al < q k) ∧
    (∀ k l, k < j → l < j → k ≠ l → q k ≠ q l) ∧ Below al w3 wr) (fun vi _ => 3 - (intOf vi).toNat)
  case atStart =>
    exact ⟨0, fun _ => 0, by omega, rfl, HA.out, fun k hk => absurd hk (by omega), fun k l hk => absurd hk (by omega), by rw [HAL.out]; exact (Below.refl _ _).alloc (Nat.le_refl _) _⟩
  case round =>
    obtain ⟨j, q, hj, rfl, hA, hq, hne, hb⟩ := hrel
    by_cases hlt : j < 3
    case neg =>
      obtain rfl : j = 3 := by omega
      rw [show ((3 : Nat) : Int) = (3 : Int) from rfl]
      have HWS := Lib.hid (ws_new HRO.out (by rw [← HAL.out]; exact hb) HAL.out hq hne hA.lt)
      have HA3 := Lib.hid hA
      have HX3 := Lib.hid (HB3.out.trans (hb.mono (by rw [HAL.out, HP.out]; exact HB3.out.size) : Below p w3 wr) : Below p Wg wr)
      clear hq hne hb hA HA HRO HAL HGw HB3
      go_wp2
      go_loopw [7, 8, 11, 12, 13] (fun va vm vn vr vi wz => ∃ (i T m r : Nat) (S : Tp.Sy) (nums : List (Nat × Nat)), i ≤ 40 ∧ vi = .int .i64 i ∧ va = .int .i64 T ∧ vm = .int .i64 m ∧ vr = .int .i64 r ∧ T ≤ i * 4000 ∧ m ≤ 100 ∧ r ≤ i * 5 ∧ Tp.Inv S nums r m T i ∧
        WS wz p a0 p q S (fun b => b = al ∨ vn.ownBlock = some b) ∧ Cel wz al (alC q 3) 34 ∧ wz.ownsRow p 9 1 vn nums.length (nums.map nuK) ∧ (∀ k ∈ nums, 1 ≤ k.1 ∧ k.1 ≤ 3 ∧ 1 ≤ k.2 ∧ k.2 ≤ 100) ∧ Below p Wg wz) (fun _ _ _ _ vi _ => 40 - (intOf vi).toNat)
      case atStart =>
        refine ⟨0, 0, 0, 0, Tp.sy0, [], by omega, rfl, rfl, rfl, rfl, by omega, by omega, by omega, Tp.inv0, HWS.out.zsub (fun b hb => ?_), HA3.out, ⟨rfl, .inl ⟨rfl, rfl⟩⟩, (fun k hk => absurd hk (List.not_mem_nil)), HX3.out⟩
        rcases hb with hb | hb
        · exact hb
        · cases hb
      case round =>
        rename World => wz
        obtain ⟨i, T, m, r, S, nums, hi, rfl, rfl, rfl, rfl, hT, hm, hr, hI, hws, hA, hrow, hnk, hb⟩ := hrel
        have HI := Lib.hid hI
        have HWZ := Lib.hid hws
        have HAZ := Lib.hid hA
        have HRW := Lib.hid hrow
        have HNK := Lib.hid hnk
        have HBZ := Lib.hid hb
        obtain ⟨na, nk, hvn⟩ := own_slice hrow
        subst hvn
        clear hI hws hA hrow hnk hb HWS HA3 HX3
        by_cases hil : i < len1
        case neg =>
          have hil' : ¬ (i : Int) < (len1 : Int) := by omega
          have d0 : wz.cell? ⟨al, 0, none⟩ = some (.pointer (some ⟨q 0, 0, none⟩)) := HAZ.out.cell 0
          have d1 : wz.cell? ⟨al, 1, none⟩ = some (.pointer (some ⟨q 1, 0, none⟩)) := HAZ.out.cell 1
          have d2 : wz.cell? ⟨al, 2, none⟩ = some (.pointer (some ⟨q 2, 0, none⟩)) := HAZ.out.cell 2
          have dl := HAZ.out.lt
          have ix0 := fun w => (ix3 (.pointer (some ⟨q 0, 0, none⟩)) (.pointer (some ⟨q 1, 0, none⟩)) (.pointer (some ⟨q 2, 0, none⟩)) w).1
          have ix1 := fun w => (ix3 (.pointer (some ⟨q 0, 0, none⟩)) (.pointer (some ⟨q 1, 0, none⟩)) (.pointer (some ⟨q 2, 0, none⟩)) w).2.1
          have ix2 := fun w => (ix3 (.pointer (some ⟨q 0, 0, none⟩)) (.pointer (some ⟨q 1, 0, none⟩)) (.pointer (some ⟨q 2, 0, none⟩)) w).2.2
          clear HRW
          obtain ⟨n0, hn0⟩ : ∃ n0, n0 = (S.tms 0).wt.length := ⟨_, rfl⟩
          obtain ⟨n1, hn1⟩ : ∃ n1, n1 = (S.tms 1).wt.length := ⟨_, rfl⟩
          obtain ⟨n2, hn2⟩ : ∃ n2, n2 = (S.tms 2).wt.length := ⟨_, rfl⟩
          obtain ⟨n3, hn3⟩ : ∃ n3, n3 = S.reg.length := ⟨_, rfl⟩
          obtain ⟨n4, hn4⟩ : ∃ n4, n4 = nums.length := ⟨_, rfl⟩
          have HW0 := Lib.hid fun y (h : WS y p a0 p q S (fun b => b = al ∨ (Value.slice na nums.length nk).ownBlock = some b)) => wait_ws h (by decide : 0 < 3) HI.out
          have HW1 := Lib.hid fun y (h : WS y p a0 p q S (fun b => b = al ∨ (Value.slice na nums.length nk).ownBlock = some b)) => wait_ws h (by decide : 1 < 3) HI.out
          have HW2 := Lib.hid fun y (h : WS y p a0 p q S (fun b => b = al ∨ (Value.slice na nums.length nk).ownBlock = some b)) => wait_ws h (by decide : 2 < 3) HI.out
          have HLEN := Lib.hid fun (y : World) (hy : WS y p a0 p q S (fun b => b = al ∨ (Value.slice na nums.length nk).ownBlock = some b)) => len_ws hy HI.out (by omega)
          have h5a := HI.out.w5 0 (by decide)
          have h5b := HI.out.w5 1 (by decide)
          have h5c := HI.out.w5 2 (by decide)
          have hln := HI.out.ln
          have hct := HI.out.ct
          rw [← hn0] at hct h5a HW0
          rw [← hn1] at hct h5b HW1
          rw [← hn2] at hct h5c HW2
          rw [← hn3] at hct HLEN
          rw [← hn4] at hct hln HWZ HW0 HW1 HW2 HLEN ⊢
          have hq : ((n3 : Int) + ((n0 : Int) + n1 + n2) + r != n4) = false := by
            rw [bne_eq_false_iff_eq]
            omega
          have h3a : n3 ≤ 100 := by omega
          clear hn0 hn1 hn2 hn3 hn4 hct
          go_wp2
          refine wp_loop_rounds 4 ?_
          rw [rounds_succ]
          go_wp2_with (first | (go_at_call 12; (with_reducible refine (HW0.out _ HWZ.out).mono ?_); rintro e w5 ⟨x5, y5, rfl, hb5⟩; have HWZ1 := Lib.hid (HWZ.out.same hb5); have HBZ1 := Lib.hid (HBZ.out.trans (hb5.mono HWZ.out.Bw)); clear hb5 d0 d1 d2 dl) | fail)
          rw [rounds_succ]
          go_wp2_with (first | (go_at_call 12; (with_reducible refine (HW1.out _ HWZ1.out).mono ?_); rintro e w6 ⟨x6, y6, rfl, hb6⟩; have HWZ2 := Lib.hid (HWZ1.out.same hb6); have HBZ2 := Lib.hid (HBZ1.out.trans (hb6.mono HWZ1.out.Bw)); clear hb6) | fail)
          rw [rounds_succ]
          go_wp2_with (first | (go_at_call 12; (with_reducible refine (HW2.out _ HWZ2.out).mono ?_); rintro e w7 ⟨x7, y7, rfl, hb7⟩; have HWZ3 := Lib.hid (HWZ2.out.same hb7); have HBZ3 := Lib.hid (HBZ2.out.trans (hb7.mono HWZ2.out.Bw)); clear hb7) | fail)
          rw [rounds_succ]
          have HGE := Lib.hid (HG.out.below HBZ3.out hGl)
          have HFI := Lib.hid (fits_ws HWZ3.out HI.out (by omega) hm v (HTG.out.below HBZ3.out (by rw [HP.out]; exact Nat.le_refl _)))
          have HLAST := Lib.hid fun (y : World) (hy : Below w7.heap.size w7 y) => last_ws (HWZ3.out.same hy) ((HLP.out.below HBZ3.out).below (hy.mono HWZ3.out.Bw)) HI.out (by omega) (fun t ht => (HNK.out _ (HI.out.rg t ht).1).2.1)
          have hBw := HWZ3.out.Bw
          have hPW : W.heap.size ≤ p := by have := HBG.out.size; omega
          have HBB := Lib.hid (HBG.out.trans (HBZ3.out.mono hPW : Below W.heap.size Wg w7) : Below W.heap.size W w7)
          go_wp2_with (first
            | (refine wpList_load_row rfl 27 _ rfl Gb rfl _ _ _ _ HGE.out Tryz.underlying27 rfl (by kernel_rfl) ?_)
            | (go_at_call 13; (with_reducible refine HFI.out.mono ?_); rintro e w8 ⟨rfl, hb8⟩; have HB8 := Lib.hid hb8; have HLAS2 := Lib.hid (HLAST.out w8 hb8); have HLE2 := Lib.hid (HLEN.out w8 (HWZ3.out.same hb8)); clear hb8)
            | (go_at_call 14; (with_reducible refine HLE2.out.mono ?_); rintro e w' ⟨rfl, rfl⟩)
            | fail)
          refine HLAS2.out.mono ?_
          rintro e w9 ⟨rfl, hb9⟩
          have HB9 := Lib.hid (show Below W.heap.size W w9 from HBB.out.trans ((HB8.out.mono HBB.out.size).trans (hb9.mono hPW)))
          have hw9 := HB9.out.size
          clear hb9
          go_upto_region 46 with (first
            | (refine wpList_store_row rfl 44 _ _ rfl w9.heap.size (rcC a0 lastT) rfl rfl 44 _ (Cel.new w9 rcZ 44) (by kernel_rfl) (by kernel_rfl) (by kernel_rfl) ?_)
            | fail)
          obtain ⟨V, hV⟩ : ∃ V, V = (w9.alloc (.cells #[.string ⟨#[]⟩, .string ⟨#[]⟩, .string ⟨#[]⟩, .int .i64 0, .int .i64 0, .int .i64 0, .int .u64 0] 44)).setRow w9.heap.size (rcC a0 lastT) := ⟨_, rfl⟩
          rw [← hV]
          have HV := Lib.hid (show Cel V w9.heap.size (rcC a0 lastT) 44 by rw [hV]; exact setRow_heap _ _ _ _ _ _ (Cel.new w9 rcZ 44))
          have HBV := Lib.hid (show Below W.heap.size W V by rw [hV]; exact Below.row (HB9.out.alloc hw9 _) hw9 _)
          have y3 : V.cell? ⟨w9.heap.size, 3, none⟩ = some (.int .i64 1) := HV.out.cell 3
          have yl := HV.out.lt
          clear hV
          go_wp2
          go_ret
          exact ⟨rfl, HBV.out⟩
        by_cases hi4 : i < 40
        case neg =>
          have hil' : (i : Int) < (len1 : Int) := by omega
          have hi4' : ¬ (i : Int) < 40 := by omega
          have d0 : wz.cell? ⟨al, 0, none⟩ = some (.pointer (some ⟨q 0, 0, none⟩)) := HAZ.out.cell 0
          have d1 : wz.cell? ⟨al, 1, none⟩ = some (.pointer (some ⟨q 1, 0, none⟩)) := HAZ.out.cell 1
          have d2 : wz.cell? ⟨al, 2, none⟩ = some (.pointer (some ⟨q 2, 0, none⟩)) := HAZ.out.cell 2
          have dl := HAZ.out.lt
          have ix0 := fun w => (ix3 (.pointer (some ⟨q 0, 0, none⟩)) (.pointer (some ⟨q 1, 0, none⟩)) (.pointer (some ⟨q 2, 0, none⟩)) w).1
          have ix1 := fun w => (ix3 (.pointer (some ⟨q 0, 0, none⟩)) (.pointer (some ⟨q 1, 0, none⟩)) (.pointer (some ⟨q 2, 0, none⟩)) w).2.1
          have ix2 := fun w => (ix3 (.pointer (some ⟨q 0, 0, none⟩)) (.pointer (some ⟨q 1, 0, none⟩)) (.pointer (some ⟨q 2, 0, none⟩)) w).2.2
          clear HRW
          obtain ⟨n0, hn0⟩ : ∃ n0, n0 = (S.tms 0).wt.length := ⟨_, rfl⟩
          obtain ⟨n1, hn1⟩ : ∃ n1, n1 = (S.tms 1).wt.length := ⟨_, rfl⟩
          obtain ⟨n2, hn2⟩ : ∃ n2, n2 = (S.tms 2).wt.length := ⟨_, rfl⟩
          obtain ⟨n3, hn3⟩ : ∃ n3, n3 = S.reg.length := ⟨_, rfl⟩
          obtain ⟨n4, hn4⟩ : ∃ n4, n4 = nums.length := ⟨_, rfl⟩
          have HW0 := Lib.hid fun y (h : WS y p a0 p q S (fun b => b = al ∨ (Value.slice na nums.length nk).ownBlock = some b)) => wait_ws h (by decide : 0 < 3) HI.out
          have HW1 := Lib.hid fun y (h : WS y p a0 p q S (fun b => b = al ∨ (Value.slice na nums.length nk).ownBlock = some b)) => wait_ws h (by decide : 1 < 3) HI.out
          have HW2 := Lib.hid fun y (h : WS y p a0 p q S (fun b => b = al ∨ (Value.slice na nums.length nk).ownBlock = some b)) => wait_ws h (by decide : 2 < 3) HI.out
          have HLEN := Lib.hid fun (y : World) (hy : WS y p a0 p q S (fun b => b = al ∨ (Value.slice na nums.length nk).ownBlock = some b)) => len_ws hy HI.out (by omega)
          have h5a := HI.out.w5 0 (by decide)
          have h5b := HI.out.w5 1 (by decide)
          have h5c := HI.out.w5 2 (by decide)
          have hln := HI.out.ln
          have hct := HI.out.ct
          rw [← hn0] at hct h5a HW0
          rw [← hn1] at hct h5b HW1
          rw [← hn2] at hct h5c HW2
          rw [← hn3] at hct HLEN
          rw [← hn4] at hct hln HWZ HW0 HW1 HW2 HLEN ⊢
          have hq : ((n3 : Int) + ((n0 : Int) + n1 + n2) + r != n4) = false := by
            rw [bne_eq_false_iff_eq]
            omega
          have h3a : n3 ≤ 100 := by omega
          clear hn0 hn1 hn2 hn3 hn4 hct
          go_wp2
          refine wp_loop_rounds 4 ?_
          rw [rounds_succ]
          go_wp2_with (first | (go_at_call 12; (with_reducible refine (HW0.out _ HWZ.out).mono ?_); rintro e w5 ⟨x5, y5, rfl, hb5⟩; have HWZ1 := Lib.hid (HWZ.out.same hb5); have HBZ1 := Lib.hid (HBZ.out.trans (hb5.mono HWZ.out.Bw)); clear hb5 d0 d1 d2 dl) | fail)
          rw [rounds_succ]
          go_wp2_with (first | (go_at_call 12; (with_reducible refine (HW1.out _ HWZ1.out).mono ?_); rintro e w6 ⟨x6, y6, rfl, hb6⟩; have HWZ2 := Lib.hid (HWZ1.out.same hb6); have HBZ2 := Lib.hid (HBZ1.out.trans (hb6.mono HWZ1.out.Bw)); clear hb6) | fail)
          rw [rounds_succ]
          go_wp2_with (first | (go_at_call 12; (with_reducible refine (HW2.out _ HWZ2.out).mono ?_); rintro e w7 ⟨x7, y7, rfl, hb7⟩; have HWZ3 := Lib.hid (HWZ2.out.same hb7); have HBZ3 := Lib.hid (HBZ2.out.trans (hb7.mono HWZ2.out.Bw)); clear hb7) | fail)
          rw [rounds_succ]
          have HGE := Lib.hid (HG.out.below HBZ3.out hGl)
          have HFI := Lib.hid (fits_ws HWZ3.out HI.out (by omega) hm v (HTG.out.below HBZ3.out (by rw [HP.out]; exact Nat.le_refl _)))
          have HLAST := Lib.hid fun (y : World) (hy : Below w7.heap.size w7 y) => last_ws (HWZ3.out.same hy) ((HLP.out.below HBZ3.out).below (hy.mono HWZ3.out.Bw)) HI.out (by omega) (fun t ht => (HNK.out _ (HI.out.rg t ht).1).2.1)
          have hBw := HWZ3.out.Bw
          have hPW : W.heap.size ≤ p := by have := HBG.out.size; omega
          have HBB := Lib.hid (HBG.out.trans (HBZ3.out.mono hPW : Below W.heap.size Wg w7) : Below W.heap.size W w7)
          go_wp2_with (first
            | (refine wpList_load_row rfl 27 _ rfl Gb rfl _ _ _ _ HGE.out Tryz.underlying27 rfl (by kernel_rfl) ?_)
            | (go_at_call 13; (with_reducible refine HFI.out.mono ?_); rintro e w8 ⟨rfl, hb8⟩; have HB8 := Lib.hid hb8; have HLAS2 := Lib.hid (HLAST.out w8 hb8); have HLE2 := Lib.hid (HLEN.out w8 (HWZ3.out.same hb8)); clear hb8)
            | (go_at_call 14; (with_reducible refine HLE2.out.mono ?_); rintro e w' ⟨rfl, rfl⟩)
            | fail)
          refine HLAS2.out.mono ?_
          rintro e w9 ⟨rfl, hb9⟩
          have HB9 := Lib.hid (show Below W.heap.size W w9 from HBB.out.trans ((HB8.out.mono HBB.out.size).trans (hb9.mono hPW)))
          have hw9 := HB9.out.size
          clear hb9
          go_upto_region 46 with (first
            | (refine wpList_store_row rfl 44 _ _ rfl w9.heap.size (rcC a0 lastT) rfl rfl 44 _ (Cel.new w9 rcZ 44) (by kernel_rfl) (by kernel_rfl) (by kernel_rfl) ?_)
            | fail)
          obtain ⟨V, hV⟩ : ∃ V, V = (w9.alloc (.cells #[.string ⟨#[]⟩, .string ⟨#[]⟩, .string ⟨#[]⟩, .int .i64 0, .int .i64 0, .int .i64 0, .int .u64 0] 44)).setRow w9.heap.size (rcC a0 lastT) := ⟨_, rfl⟩
          rw [← hV]
          have HV := Lib.hid (show Cel V w9.heap.size (rcC a0 lastT) 44 by rw [hV]; exact setRow_heap _ _ _ _ _ _ (Cel.new w9 rcZ 44))
          have HBV := Lib.hid (show Below W.heap.size W V by rw [hV]; exact Below.row (HB9.out.alloc hw9 _) hw9 _)
          have y3 : V.cell? ⟨w9.heap.size, 3, none⟩ = some (.int .i64 1) := HV.out.cell 3
          have yl := HV.out.lt
          clear hV
          go_wp2
          go_ret
          exact ⟨rfl, HBV.out⟩
        have hil' : (i : Int) < (len1 : Int) := by omega
        have hi4' : (i : Int) < 40 := by omega
        have hi0 : (0 : Int) ≤ (i : Int) := by omega
        obtain ⟨lb, lo, rfl, hlb, ⟨e0, r0a, r0b⟩, ⟨e1, r1a, r1b⟩, ⟨e2, r2a, r2b⟩, ⟨e3, r3a, r3b⟩, ⟨e4, r4a, r4b⟩⟩ := HIN.out.at hil
        have hPW : W.heap.size ≤ p := by have := HBG.out.size; omega
        have hBW : Below W.heap.size W wz := HBG.out.trans (HBZ.out.mono hPW)
        have hcl := fun x => hBW.cell (p := ⟨lb, x, none⟩) hlb
        have E0 := (hcl _).trans e0
        have E1 := (hcl _).trans e1
        have E2 := (hcl _).trans e2
        have E3 := (hcl _).trans e3
        have E4 := (hcl _).trans e4
        obtain ⟨k, hk⟩ : ∃ k : Nat, (k : Int) = z1 i 1 % 3 := ⟨(z1 i 1 % 3).toNat, by omega⟩
        obtain ⟨d, hd⟩ : ∃ d : Nat, (d : Int) = z1 i 4 % 4000 := ⟨(z1 i 4 % 4000).toNat, by omega⟩
        obtain ⟨f, hf⟩ : ∃ f : Nat, (f : Int) = z1 i 0 % 4 := ⟨(z1 i 0 % 4).toNat, by omega⟩
        have hk3 : k < 3 := by omega
        have hd3 : d ≤ 3999 := by omega
        have hka : wz.cell? ⟨al, (z1 i 1 % 3).toNat, none⟩ = some (.pointer (some ⟨q k, 0, none⟩)) := by
          rw [show (z1 i 1 % 3).toNat = k by omega, HAZ.out.cell k]
          rcases (show k = 0 ∨ k = 1 ∨ k = 2 by omega) with rfl | rfl | rfl <;> rfl
        have dl := HAZ.out.lt
        have hlw : lb < wz.heap.size := Nat.lt_of_lt_of_le hlb hBW.size
        have hz1a : 0 ≤ z1 i 1 % 3 := by omega
        have hz1b : z1 i 1 % 3 < 3 := by omega
        have HE0 := Lib.hid E0
        have HE2 := Lib.hid E2
        have HE3 := Lib.hid E3
        clear e0 e1 e2 e3 e4 hBW hcl E2 E3
        go_upto_region 32 with fail
        obtain ⟨T', hT'⟩ : ∃ T' : Nat, (T' : Int) = (T : Int) + z1 i 4 % 4000 := ⟨T + d, by omega⟩
        rw [← hT', ← hf]
        have hTT : T ≤ T' := by omega
        have hTi : T' ≤ (i + 1) * 4000 := by omega
        have hT16 : T' ≤ 160000 := by omega
        have HI1 := Lib.hid (HI.out.at hTT (Nat.le_refl i))
        have HKR := Lib.hid fun (y : World) (hy : Kp p (fun b => b = al ∨ (Value.slice na nums.length nk).ownBlock = some b) wz y) => (⟨(hy.keep al (.inl rfl)).trans HAZ.out, ownsRow_same HRW.out (fun g hg => hy.keep g (.inr hg)), HBZ.out.trans hy.bel⟩ : Cel y al (alC q 3) 34 ∧ y.ownsRow p 9 1 (.slice na nums.length nk) nums.length (nums.map nuK) ∧ Below p Wg y)
        clear hk hd hT' hka E0 E1 E4 hz1a hz1b
        by_cases hf1 : f = 1
        · subst hf1
          have HDR := Lib.hid (drop_ws HWZ.out hk3 HI1.out)
          go_wp2_with (first
            | (go_at_call 8; (with_reducible refine HDR.out.mono ?_); rintro e w5 ⟨rfl, S5, hws5, hI5, hkp5⟩; have HWS5 := Lib.hid hws5; have HI5 := Lib.hid hI5; have HKP5 := Lib.hid (HKR.out w5 hkp5); clear hws5 hI5 hkp5)
            | fail)
          go_roundw
          case rel => exact ⟨i + 1, T', m, r, S5, nums, by omega, by go_num, rfl, rfl, rfl, hTi, hm, by omega, HI5.out.at (Nat.le_refl _) (Nat.le_succ _), HWS5.out, HKP5.out.1, HKP5.out.2.1, HNK.out, HKP5.out.2.2⟩
          case measure => simp only [intOf]; omega
        by_cases hf2 : f = 2
        · subst hf2
          have HRS := Lib.hid (restore_ws HWZ.out (HLP.out.below HBZ.out) hk3 HI1.out hT16 (by omega))
          go_wp2_with (first
            | (go_at_call 9; (with_reducible refine HRS.out.mono ?_); rintro e w5 ⟨a5, nr, c5, er, rfl, S5, hws5, hI5, hnr, hkp5⟩; have HWS5 := Lib.hid hws5; have HI5 := Lib.hid hI5; have HKP5 := Lib.hid (HKR.out w5 hkp5); clear hws5 hI5 hkp5)
            | fail)
          go_roundw
          case rel => exact ⟨i + 1, T', m, r + nr, S5, nums, by omega, by go_num, rfl, rfl, by go_num, hTi, hm, by omega, HI5.out.at (Nat.le_refl _) (Nat.le_succ _), HWS5.out, HKP5.out.1, HKP5.out.2.1, HNK.out, HKP5.out.2.2⟩
          case measure => simp only [intOf]; omega
        have hf1' : ((f : Int) == 1) = false := by rw [beq_eq_false_iff_ne]; omega
        have hf2' : ((f : Int) == 2) = false := by rw [beq_eq_false_iff_ne]; omega
        have HS := Lib.hid (show ∀ y, Below p wz y → y.rangeAt Gb 0 (gcs v).toList ∧ (y.cell? ⟨lb, lo + i * 5 + 2, none⟩ = some (.int .u8 (z1 i 2)) ∧ y.cell? ⟨lb, lo + i * 5 + 3, none⟩ = some (.int .u8 (z1 i 3))) from fun y hy => by
          constructor
          · intro j u hj
            rw [Nat.zero_add, (HG.out.below (HBZ.out.trans hy) hGl).cell j, ← hj]
            exact (Array.getElem?_toList).symm
          · exact ⟨(hy.cell (p := ⟨lb, _, none⟩) (by show lb < p; omega)).trans HE2.out, (hy.cell (p := ⟨lb, _, none⟩) (by show lb < p; omega)).trans HE3.out⟩)
        go_upto_region 22 with fail
        apply share (Q := SaleQ wz p a0 p q S (fun b => b = al ∨ (Value.slice na nums.length nk).ownBlock = some b) nums r m T' i k)
        case main =>
          intro CONT
          refine wp_region_held_drew (S := fun y => y.rangeAt Gb 0 (gcs v).toList ∧ (y.cell? ⟨lb, lo + i * 5 + 2, none⟩ = some (.int .u8 (z1 i 2)) ∧ y.cell? ⟨lb, lo + i * 5 + 3, none⟩ = some (.int .u8 (z1 i 3)))) (by kernel_rfl) (HS.out _ (Below.refl _ _).drew) (fun hHeld => ?_)
          have hlr1 : ∀ y : World, (y.rangeAt Gb 0 (gcs v).toList ∧ (y.cell? ⟨lb, lo + i * 5 + 2, none⟩ = some (.int .u8 (z1 i 2)) ∧ y.cell? ⟨lb, lo + i * 5 + 3, none⟩ = some (.int .u8 (z1 i 3)))) → y.rangeAt Gb 0 (gcs v).toList := fun y hy => hy.1
          refine wpAnyH_take (i := 0) (oi := _) (v := ?_) rfl (by kernel_rfl) (by kernel_rfl) (by kernel_rfl) (fun _ _ _ h => h) (Or.inl ⟨by rfl, ?_⟩) (by assumption) ?_
          rotate_left
          · (intro w hSw; (try dsimp only at hSw); go_simp; (try with_reducible rfl))
          simp only [Act.put, List.setIfInBounds_toArray, List.set_cons_zero, List.set_cons_succ]
          refine wpAnyH_take (i := 1) (oi := _) (v := ?_) rfl (by kernel_rfl) (by kernel_rfl) (by kernel_rfl) (fun _ _ _ h => h) (Or.inl ⟨by rfl, ?_⟩) (by assumption) ?_
          rotate_left
          · (intro w hSw; (try dsimp only at hSw); go_simp; (try with_reducible rfl))
          simp only [Act.put, List.setIfInBounds_toArray, List.set_cons_zero, List.set_cons_succ]
          refine wpAnyH_take (i := 2) (oi := _) (v := _) rfl (by kernel_rfl) (by kernel_rfl) (by kernel_rfl) (fun _ _ _ h => h) (yieldsIf_load_mid (by rfl) 27 _ rfl Gb 0 rfl (gcs v).toList _ hlr1 Tryz.underlying27 rfl (gcs_len v)) (by assumption) ?_
          simp only [Act.put, List.setIfInBounds_toArray, List.set_cons_zero, List.set_cons_succ]
          refine wpAnyH_take (i := 3) (oi := _) (v := ?_) rfl (by kernel_rfl) (by kernel_rfl) (by kernel_rfl) (fun _ _ _ h => h) (Or.inl ⟨by rfl, ?_⟩) (by assumption) ?_
          rotate_left
          · (intro w hSw; (try dsimp only at hSw); go_simp; (try with_reducible rfl))
          simp only [Act.put, List.setIfInBounds_toArray, List.set_cons_zero, List.set_cons_succ]
          refine wpAnyH_take (i := 4) (oi := _) (v := ?_) rfl (by kernel_rfl) (by kernel_rfl) (by kernel_rfl) (fun _ _ _ h => h) (Or.inl ⟨by rfl, ?_⟩) (by assumption) ?_
          rotate_left
          · (intro w hSw; (try dsimp only at hSw); go_simp; (try with_reducible rfl))
          simp only [Act.put, List.setIfInBounds_toArray, List.set_cons_zero, List.set_cons_succ]
          refine wpAnyH_take (i := 5) (oi := _) (v := ?_) rfl (by kernel_rfl) (by kernel_rfl) (by kernel_rfl) (fun _ _ _ h => h) (Or.inl ⟨by rfl, ?_⟩) (by assumption) ?_
          rotate_left
          · (intro w hSw; (try dsimp only at hSw); go_simp; (try with_reducible rfl))
          simp only [Act.put, List.setIfInBounds_toArray, List.set_cons_zero, List.set_cons_succ]
          refine wpAnyH_take (i := 6) (oi := _) (v := ?_) rfl (by kernel_rfl) (by kernel_rfl) (by kernel_rfl) (fun _ _ _ h => h) (Or.inl ⟨by rfl, ?_⟩) (by assumption) ?_
          rotate_left
          · (intro w hSw; (try dsimp only at hSw); go_simp; (try with_reducible rfl))
          simp only [Act.put, List.setIfInBounds_toArray, List.set_cons_zero, List.set_cons_succ]
          refine wpAnyH_take (i := 7) (oi := _) (v := ?_) rfl (by kernel_rfl) (by kernel_rfl) (by kernel_rfl) (fun _ _ _ h => h) (Or.inl ⟨by rfl, ?_⟩) (by assumption) ?_
          rotate_left
          · (intro w hSw; (try dsimp only at hSw); go_simp; (try with_reducible rfl))
          simp only [Act.put, List.setIfInBounds_toArray, List.set_cons_zero, List.set_cons_succ]
          refine wpAnyH_take (i := 9) (oi := _) (v := ?_) rfl (by kernel_rfl) (by kernel_rfl) (by kernel_rfl) (fun _ _ _ h => h) (Or.inl ⟨by rfl, ?_⟩) (by assumption) ?_
          rotate_left
          · (intro w hSw; (try dsimp only at hSw); go_simp; (try with_reducible rfl))
          simp only [Act.put, List.setIfInBounds_toArray, List.set_cons_zero, List.set_cons_succ]
          refine wpAnyH_ready (rs := [8, 14]) (by kernel_rfl) (by simp) ?_
          refine AllReadyH.cons (o := _) rfl (fun K2 hK => ?_) (AllReadyH.cons (o := _) rfl (fun K2 hK => ?_) AllReadyH.nil)
          · go_simp
            obtain ⟨WC, hWC⟩ : ∃ WC, WC = wz.drew := ⟨_, rfl⟩
            rw [← hWC]
            have HXC := Lib.hid (show Below wz.heap.size wz WC by rw [hWC]; exact (Below.refl _ _).drew)
            clear hWC
            refine (slip_any (z1 i 2) (z1 i 3) WC r2a r2b r3a r3b).mono ?_
            rintro e w5 ⟨x, y, rfl, hx, hxy, hy, hb5⟩
            have HXX := Lib.hid (HXC.out.trans (hb5.mono HXC.out.size))
            clear hb5
            go_wp2_with fail
            refine hK.out _ _ ?_ (fun hHeld => ?_)
            · exact HS.out _ (HXX.out.mono HWZ.out.Bw)
            clear hK K2
            try simp only [Act.put, List.setIfInBounds_toArray, List.set_cons_zero, List.set_cons_succ]
            refine wpAnyH_ready (rs := [10, 14]) (by kernel_rfl) (by simp) ?_
            refine AllReadyH.cons (o := _) rfl (fun K2 hK => ?_) (AllReadyH.cons (o := _) rfl (fun K2 hK => ?_) AllReadyH.nil)
            · go_simp
              refine (sell_r (Z := (fun b => b = al ∨ (Value.slice na nums.length nk).ownBlock = some b)) (HWZ.out.same HXX.out) ((HLP.out.below HBZ.out).below (HXX.out.mono HWZ.out.Bw)) hk3 HI1.out hT16 (by omega) v (HTG.out.below (HBZ.out.trans (HXX.out.mono HWZ.out.Bw)) (by rw [HP.out]; exact Nat.le_refl _)) x y hx hxy hy).mono ?_
              rintro e w6 ⟨rc, er, rfl, hkp, hsr⟩
              have HK6 := Lib.hid hkp
              have HSR := Lib.hid hsr
              clear hkp hsr
              go_wp2_with fail
              have HKW := Lib.hid ((Kp.of_below HXX.out HWZ.out.Bw HWZ.out.zlt).trans HK6.out)
              refine hK.out _ _ ?_ (fun hHeld => ?_)
              · exact HS.out _ HKW.out.bel
              clear hK K2
              try simp only [Act.put, List.setIfInBounds_toArray, List.set_cons_zero, List.set_cons_succ]
              refine wpAnyH_take (i := 11) (oi := _) (v := ?_) rfl (by kernel_rfl) (by kernel_rfl) (by kernel_rfl) (fun _ _ _ h => h) (Or.inl ⟨by rfl, ?_⟩) (by assumption) ?_
              rotate_left
              · (intro w hSw; (try dsimp only at hSw); go_simp; (try with_reducible rfl))
              simp only [Act.put, List.setIfInBounds_toArray, List.set_cons_zero, List.set_cons_succ]
              refine wpAnyH_take (i := 12) (oi := _) (v := ?_) rfl (by kernel_rfl) (by kernel_rfl) (by kernel_rfl) (fun _ _ _ h => h) (Or.inl ⟨by rfl, ?_⟩) (by assumption) ?_
              rotate_left
              · (intro w hSw; (try dsimp only at hSw); go_simp; (try with_reducible rfl))
              simp only [Act.put, List.setIfInBounds_toArray, List.set_cons_zero, List.set_cons_succ]
              refine wpAnyH_take (i := 13) (oi := _) (v := ?_) rfl (by kernel_rfl) (by kernel_rfl) (by kernel_rfl) (fun _ _ _ h => h) (Or.inl ⟨by rfl, ?_⟩) (by assumption) ?_
              rotate_left
              · (intro w hSw; (try dsimp only at hSw); go_simp; (try with_reducible rfl))
              simp only [Act.put, List.setIfInBounds_toArray, List.set_cons_zero, List.set_cons_succ]
              refine wpAnyH_ready (rs := [14]) (by kernel_rfl) (by simp) ?_
              refine AllReadyH.cons (o := _) rfl (fun K2 hK => ?_) AllReadyH.nil
              go_simp
              obtain ⟨X, hX⟩ : ∃ X, X = w6.heap.size := ⟨_, rfl⟩
              obtain ⟨W7, hW7⟩ : ∃ W7, W7 = w6.alloc (.cells #[.string ⟨#[]⟩, .string ⟨#[]⟩, .string ⟨#[]⟩, .int .i64 0, .int .i64 0, .int .i64 0, .int .u64 0] 44) := ⟨_, rfl⟩
              rw [← hX, ← hW7]
              have hws : wz.heap.size ≤ w6.heap.size := HKW.out.bel.size
              have hal : Below w6.heap.size w6 W7 := by rw [hW7]; exact (Below.refl _ _).alloc (Nat.le_refl _) _
              have HAA := Lib.hid (show Cel W7 X rcZ 44 by rw [hX, hW7]; exact Cel.new _ _ _)
              have HXZ := Lib.hid (show wz.heap.size ≤ X by rw [hX]; exact hws)
              have HXP := Lib.hid (show p ≤ X from Nat.le_trans HWZ.out.Bw HXZ.out)
              have HK7 := Lib.hid (HKW.out.trans (Kp.of_below hal (Nat.le_trans HWZ.out.Bw hws) (fun b hb => Nat.lt_of_lt_of_le (HWZ.out.zlt b hb) hws)))
              have HX7 := Lib.hid HK7.out.bel
              have HR7 := Lib.hid (show SaleR p a0 p q S (fun b => (fun b => b = al ∨ (Value.slice na nums.length nk).ownBlock = some b) b ∨ b = X) nums r m T' i k x y rc er W7 by
                rw [hX, hW7]
                exact HSR.out.map (fun S' h => h.alloc _))
              clear hX hW7 hws hal
              refine hK.out _ _ ?_ (fun hHeld => ?_)
              · exact HS.out _ HX7.out
              clear hK K2
              try simp only [Act.put, List.setIfInBounds_toArray, List.set_cons_zero, List.set_cons_succ]
              refine wpAnyH_ready (rs := [15]) (by kernel_rfl) (by simp) ?_
              refine AllReadyH.cons (o := _) rfl (fun K2 hK => ?_) AllReadyH.nil
              refine step_wp rfl (wp_store_row 44 _ _ rfl X rc rfl rfl 44 rcZ HAA.out (by rw [HSR.out.1]; kernel_rfl) (by rw [HSR.out.1]; rfl) HSR.out.2.1 ?_)
              obtain ⟨V, hV⟩ : ∃ V, V = W7.setRow X rc := ⟨_, rfl⟩
              rw [← hV]
              have HVB := Lib.hid (show Below p wz V by rw [hV]; exact HX7.out.trans (Below.row (Below.refl _ _) HXP.out rc))
              have HVC := Lib.hid (show Cel V X rc 44 by rw [hV]; exact setRow_heap _ _ _ _ _ _ HAA.out)
              have HVK := Lib.hid (show Kp p (fun b => b = al ∨ (Value.slice na nums.length nk).ownBlock = some b) wz V by
                rw [hV]
                exact HK7.out.trans (Kp.row HXP.out (fun b hb e => by have := HWZ.out.zlt b hb; have := HXZ.out; omega) W7 rc))
              have HVW := Lib.hid (show ∀ S', WS W7 p a0 p q S' (fun b => (fun b => b = al ∨ (Value.slice na nums.length nk).ownBlock = some b) b ∨ b = X) → WS V p a0 p q S' (fun b => b = al ∨ (Value.slice na nums.length nk).ownBlock = some b) from fun S' h => by
                rw [hV]
                exact (h.row (.inr rfl) rc).zsub (fun b hb => .inl hb))
              clear hV
              refine hK.out _ _ ?_ (fun hHeld => ?_)
              · exact HS.out _ HVB.out
              clear hK K2
              try simp only [Act.put, List.setIfInBounds_toArray, List.set_cons_zero, List.set_cons_succ]
              refine wpAnyH_ready (rs := [16]) (by kernel_rfl) (by simp) ?_
              refine AllReadyH.cons (o := _) rfl (fun K2 hK => ?_) AllReadyH.nil
              go_simp
              refine hK.out _ _ ?_ (fun hHeld => ?_)
              · exact HS.out _ HVB.out
              clear hK K2
              try simp only [Act.put, List.setIfInBounds_toArray, List.set_cons_zero, List.set_cons_succ]
              refine wpAnyH_done (by kernel_rfl) ?_ _
              exact CONT V X rc er x y (HR7.out.done HVW.out HVC.out HXZ.out HVK.out)
            · go_simp
              obtain ⟨X, hX⟩ : ∃ X, X = w5.heap.size := ⟨_, rfl⟩
              obtain ⟨W6, hW6⟩ : ∃ W6, W6 = w5.alloc (.cells #[.string ⟨#[]⟩, .string ⟨#[]⟩, .string ⟨#[]⟩, .int .i64 0, .int .i64 0, .int .i64 0, .int .u64 0] 44) := ⟨_, rfl⟩
              rw [← hX, ← hW6]
              have hal : Below w5.heap.size w5 W6 := by rw [hW6]; exact (Below.refl _ _).alloc (Nat.le_refl _) _
              have HA6 := Lib.hid (show Cel W6 X rcZ 44 by rw [hX, hW6]; exact Cel.new _ _ _)
              have HXZ := Lib.hid (show wz.heap.size ≤ X by rw [hX]; exact HXX.out.size)
              have HW6 := Lib.hid (show WS W6 p a0 p q S (fun b => (fun b => b = al ∨ (Value.slice na nums.length nk).ownBlock = some b) b ∨ b = X) by rw [hX, hW6]; exact (HWZ.out.same HXX.out).alloc _)
              replace HXX := Lib.hid (HXX.out.trans (hal.mono HXX.out.size))
              clear hX hW6 hal
              refine hK.out _ _ ?_ (fun hHeld => ?_)
              · exact HS.out _ (HXX.out.mono HWZ.out.Bw)
              clear hK K2
              try simp only [Act.put, List.setIfInBounds_toArray, List.set_cons_zero, List.set_cons_succ]
              refine wpAnyH_ready (rs := [10]) (by kernel_rfl) (by simp) ?_
              refine AllReadyH.cons (o := _) rfl (fun K2 hK => ?_) AllReadyH.nil
              go_simp
              refine (sell_r (Z := (fun b => (fun b => b = al ∨ (Value.slice na nums.length nk).ownBlock = some b) b ∨ b = X)) HW6.out ((HLP.out.below HBZ.out).below (HXX.out.mono HWZ.out.Bw)) hk3 HI1.out hT16 (by omega) v (HTG.out.below (HBZ.out.trans (HXX.out.mono HWZ.out.Bw)) (by rw [HP.out]; exact Nat.le_refl _)) x y hx hxy hy).mono ?_
              rintro e w6 ⟨rc, er, rfl, hkp, hsr⟩
              have HK6 := Lib.hid hkp
              have HSR := Lib.hid hsr
              clear hkp hsr
              go_wp2_with fail
              have HKW := Lib.hid (show Kp p (fun b => b = al ∨ (Value.slice na nums.length nk).ownBlock = some b) wz w6 from (Kp.of_below HXX.out HWZ.out.Bw HWZ.out.zlt).trans ⟨HK6.out.bel, fun b hb => HK6.out.keep b (.inl hb)⟩)
              refine hK.out _ _ ?_ (fun hHeld => ?_)
              · exact HS.out _ HKW.out.bel
              clear hK K2
              try simp only [Act.put, List.setIfInBounds_toArray, List.set_cons_zero, List.set_cons_succ]
              refine wpAnyH_take (i := 11) (oi := _) (v := ?_) rfl (by kernel_rfl) (by kernel_rfl) (by kernel_rfl) (fun _ _ _ h => h) (Or.inl ⟨by rfl, ?_⟩) (by assumption) ?_
              rotate_left
              · (intro w hSw; (try dsimp only at hSw); go_simp; (try with_reducible rfl))
              simp only [Act.put, List.setIfInBounds_toArray, List.set_cons_zero, List.set_cons_succ]
              refine wpAnyH_take (i := 12) (oi := _) (v := ?_) rfl (by kernel_rfl) (by kernel_rfl) (by kernel_rfl) (fun _ _ _ h => h) (Or.inl ⟨by rfl, ?_⟩) (by assumption) ?_
              rotate_left
              · (intro w hSw; (try dsimp only at hSw); go_simp; (try with_reducible rfl))
              simp only [Act.put, List.setIfInBounds_toArray, List.set_cons_zero, List.set_cons_succ]
              refine wpAnyH_take (i := 13) (oi := _) (v := ?_) rfl (by kernel_rfl) (by kernel_rfl) (by kernel_rfl) (fun _ _ _ h => h) (Or.inl ⟨by rfl, ?_⟩) (by assumption) ?_
              rotate_left
              · (intro w hSw; (try dsimp only at hSw); go_simp; (try with_reducible rfl))
              simp only [Act.put, List.setIfInBounds_toArray, List.set_cons_zero, List.set_cons_succ]
              obtain ⟨W7, hW7⟩ : ∃ W7, W7 = w6 := ⟨_, rfl⟩
              rw [← hW7]
              have HAA := Lib.hid (show Cel W7 X rcZ 44 by rw [hW7]; exact (HK6.out.keep X (.inr rfl)).trans HA6.out)
              have HXP := Lib.hid (show p ≤ X from Nat.le_trans HWZ.out.Bw HXZ.out)
              have HK7 := Lib.hid (show Kp p (fun b => b = al ∨ (Value.slice na nums.length nk).ownBlock = some b) wz W7 by rw [hW7]; exact HKW.out)
              have HX7 := Lib.hid HK7.out.bel
              have HR7 := Lib.hid (show SaleR p a0 p q S (fun b => (fun b => b = al ∨ (Value.slice na nums.length nk).ownBlock = some b) b ∨ b = X) nums r m T' i k x y rc er W7 by rw [hW7]; exact HSR.out)
              clear hW7
              refine wpAnyH_ready (rs := [15]) (by kernel_rfl) (by simp) ?_
              refine AllReadyH.cons (o := _) rfl (fun K2 hK => ?_) AllReadyH.nil
              refine step_wp rfl (wp_store_row 44 _ _ rfl X rc rfl rfl 44 rcZ HAA.out (by rw [HSR.out.1]; kernel_rfl) (by rw [HSR.out.1]; rfl) HSR.out.2.1 ?_)
              obtain ⟨V, hV⟩ : ∃ V, V = W7.setRow X rc := ⟨_, rfl⟩
              rw [← hV]
              have HVB := Lib.hid (show Below p wz V by rw [hV]; exact HX7.out.trans (Below.row (Below.refl _ _) HXP.out rc))
              have HVC := Lib.hid (show Cel V X rc 44 by rw [hV]; exact setRow_heap _ _ _ _ _ _ HAA.out)
              have HVK := Lib.hid (show Kp p (fun b => b = al ∨ (Value.slice na nums.length nk).ownBlock = some b) wz V by
                rw [hV]
                exact HK7.out.trans (Kp.row HXP.out (fun b hb e => by have := HWZ.out.zlt b hb; have := HXZ.out; omega) W7 rc))
              have HVW := Lib.hid (show ∀ S', WS W7 p a0 p q S' (fun b => (fun b => b = al ∨ (Value.slice na nums.length nk).ownBlock = some b) b ∨ b = X) → WS V p a0 p q S' (fun b => b = al ∨ (Value.slice na nums.length nk).ownBlock = some b) from fun S' h => by
                rw [hV]
                exact (h.row (.inr rfl) rc).zsub (fun b hb => .inl hb))
              clear hV
              refine hK.out _ _ ?_ (fun hHeld => ?_)
              · exact HS.out _ HVB.out
              clear hK K2
              try simp only [Act.put, List.setIfInBounds_toArray, List.set_cons_zero, List.set_cons_succ]
              refine wpAnyH_ready (rs := [16]) (by kernel_rfl) (by simp) ?_
              refine AllReadyH.cons (o := _) rfl (fun K2 hK => ?_) AllReadyH.nil
              go_simp
              refine hK.out _ _ ?_ (fun hHeld => ?_)
              · exact HS.out _ HVB.out
              clear hK K2
              try simp only [Act.put, List.setIfInBounds_toArray, List.set_cons_zero, List.set_cons_succ]
              refine wpAnyH_done (by kernel_rfl) ?_ _
              exact CONT V X rc er x y (HR7.out.done HVW.out HVC.out HXZ.out HVK.out)
          · go_simp
            obtain ⟨X, hX⟩ : ∃ X, X = wz.heap.size := ⟨_, rfl⟩
            obtain ⟨WC, hWC⟩ : ∃ WC, WC = (wz.alloc (.cells #[.string ⟨#[]⟩, .string ⟨#[]⟩, .string ⟨#[]⟩, .int .i64 0, .int .i64 0, .int .i64 0, .int .u64 0] 44)).drew := ⟨_, rfl⟩
            rw [← hWC]
            have hal : Below wz.heap.size wz WC := by rw [hWC]; exact ((Below.refl _ _).alloc (Nat.le_refl _) _).drew
            have hAC : Cel WC X rcZ 44 := by rw [hX, hWC]; exact (Cel.new _ _ _).drew
            have hWC2 : WS WC p a0 p q S (fun b => (fun b => b = al ∨ (Value.slice na nums.length nk).ownBlock = some b) b ∨ b = X) := by rw [hX, hWC]; exact (HWZ.out.alloc _).same (Below.refl _ _).drew
            have HXC := Lib.hid hal
            have HAC := Lib.hid hAC
            have HWC := Lib.hid hWC2
            have HXZ := Lib.hid (show wz.heap.size ≤ X by rw [hX]; exact Nat.le_refl _)
            rw [← hX]
            clear hX hWC hal hAC hWC2
            refine hK.out _ _ ?_ (fun hHeld => ?_)
            · exact HS.out _ (HXC.out.mono HWZ.out.Bw)
            clear hK K2
            try simp only [Act.put, List.setIfInBounds_toArray, List.set_cons_zero, List.set_cons_succ]
            refine wpAnyH_ready (rs := [8]) (by kernel_rfl) (by simp) ?_
            refine AllReadyH.cons (o := _) rfl (fun K2 hK => ?_) AllReadyH.nil
            go_simp
            refine (slip_any (z1 i 2) (z1 i 3) WC r2a r2b r3a r3b).mono ?_
            rintro e w5 ⟨x, y, rfl, hx, hxy, hy, hb5⟩
            have HA6 := Lib.hid (HAC.out.below hb5 HAC.out.lt)
            have HW6 := Lib.hid (HWC.out.same hb5)
            have HXX := Lib.hid (HXC.out.trans (hb5.mono HXC.out.size))
            clear hb5
            obtain ⟨W6, hW6⟩ : ∃ W6, W6 = w5 := ⟨_, rfl⟩
            go_wp2_with fail
            rw [← hW6] at HA6 HW6 HXX ⊢
            clear hW6
            refine hK.out _ _ ?_ (fun hHeld => ?_)
            · exact HS.out _ (HXX.out.mono HWZ.out.Bw)
            clear hK K2
            try simp only [Act.put, List.setIfInBounds_toArray, List.set_cons_zero, List.set_cons_succ]
            refine wpAnyH_ready (rs := [10]) (by kernel_rfl) (by simp) ?_
            refine AllReadyH.cons (o := _) rfl (fun K2 hK => ?_) AllReadyH.nil
            go_simp
            refine (sell_r (Z := (fun b => (fun b => b = al ∨ (Value.slice na nums.length nk).ownBlock = some b) b ∨ b = X)) HW6.out ((HLP.out.below HBZ.out).below (HXX.out.mono HWZ.out.Bw)) hk3 HI1.out hT16 (by omega) v (HTG.out.below (HBZ.out.trans (HXX.out.mono HWZ.out.Bw)) (by rw [HP.out]; exact Nat.le_refl _)) x y hx hxy hy).mono ?_
            rintro e w6 ⟨rc, er, rfl, hkp, hsr⟩
            have HK6 := Lib.hid hkp
            have HSR := Lib.hid hsr
            clear hkp hsr
            go_wp2_with fail
            have HKW := Lib.hid (show Kp p (fun b => b = al ∨ (Value.slice na nums.length nk).ownBlock = some b) wz w6 from (Kp.of_below HXX.out HWZ.out.Bw HWZ.out.zlt).trans ⟨HK6.out.bel, fun b hb => HK6.out.keep b (.inl hb)⟩)
            refine hK.out _ _ ?_ (fun hHeld => ?_)
            · exact HS.out _ HKW.out.bel
            clear hK K2
            try simp only [Act.put, List.setIfInBounds_toArray, List.set_cons_zero, List.set_cons_succ]
            refine wpAnyH_take (i := 11) (oi := _) (v := ?_) rfl (by kernel_rfl) (by kernel_rfl) (by kernel_rfl) (fun _ _ _ h => h) (Or.inl ⟨by rfl, ?_⟩) (by assumption) ?_
            rotate_left
            · (intro w hSw; (try dsimp only at hSw); go_simp; (try with_reducible rfl))
            simp only [Act.put, List.setIfInBounds_toArray, List.set_cons_zero, List.set_cons_succ]
            refine wpAnyH_take (i := 12) (oi := _) (v := ?_) rfl (by kernel_rfl) (by kernel_rfl) (by kernel_rfl) (fun _ _ _ h => h) (Or.inl ⟨by rfl, ?_⟩) (by assumption) ?_
            rotate_left
            · (intro w hSw; (try dsimp only at hSw); go_simp; (try with_reducible rfl))
            simp only [Act.put, List.setIfInBounds_toArray, List.set_cons_zero, List.set_cons_succ]
            refine wpAnyH_take (i := 13) (oi := _) (v := ?_) rfl (by kernel_rfl) (by kernel_rfl) (by kernel_rfl) (fun _ _ _ h => h) (Or.inl ⟨by rfl, ?_⟩) (by assumption) ?_
            rotate_left
            · (intro w hSw; (try dsimp only at hSw); go_simp; (try with_reducible rfl))
            simp only [Act.put, List.setIfInBounds_toArray, List.set_cons_zero, List.set_cons_succ]
            obtain ⟨W7, hW7⟩ : ∃ W7, W7 = w6 := ⟨_, rfl⟩
            rw [← hW7]
            have HAA := Lib.hid (show Cel W7 X rcZ 44 by rw [hW7]; exact (HK6.out.keep X (.inr rfl)).trans HA6.out)
            have HXP := Lib.hid (show p ≤ X from Nat.le_trans HWZ.out.Bw HXZ.out)
            have HK7 := Lib.hid (show Kp p (fun b => b = al ∨ (Value.slice na nums.length nk).ownBlock = some b) wz W7 by rw [hW7]; exact HKW.out)
            have HX7 := Lib.hid HK7.out.bel
            have HR7 := Lib.hid (show SaleR p a0 p q S (fun b => (fun b => b = al ∨ (Value.slice na nums.length nk).ownBlock = some b) b ∨ b = X) nums r m T' i k x y rc er W7 by rw [hW7]; exact HSR.out)
            clear hW7
            refine wpAnyH_ready (rs := [15]) (by kernel_rfl) (by simp) ?_
            refine AllReadyH.cons (o := _) rfl (fun K2 hK => ?_) AllReadyH.nil
            refine step_wp rfl (wp_store_row 44 _ _ rfl X rc rfl rfl 44 rcZ HAA.out (by rw [HSR.out.1]; kernel_rfl) (by rw [HSR.out.1]; rfl) HSR.out.2.1 ?_)
            obtain ⟨V, hV⟩ : ∃ V, V = W7.setRow X rc := ⟨_, rfl⟩
            rw [← hV]
            have HVB := Lib.hid (show Below p wz V by rw [hV]; exact HX7.out.trans (Below.row (Below.refl _ _) HXP.out rc))
            have HVC := Lib.hid (show Cel V X rc 44 by rw [hV]; exact setRow_heap _ _ _ _ _ _ HAA.out)
            have HVK := Lib.hid (show Kp p (fun b => b = al ∨ (Value.slice na nums.length nk).ownBlock = some b) wz V by
              rw [hV]
              exact HK7.out.trans (Kp.row HXP.out (fun b hb e => by have := HWZ.out.zlt b hb; have := HXZ.out; omega) W7 rc))
            have HVW := Lib.hid (show ∀ S', WS W7 p a0 p q S' (fun b => (fun b => b = al ∨ (Value.slice na nums.length nk).ownBlock = some b) b ∨ b = X) → WS V p a0 p q S' (fun b => b = al ∨ (Value.slice na nums.length nk).ownBlock = some b) from fun S' h => by
              rw [hV]
              exact (h.row (.inr rfl) rc).zsub (fun b hb => .inl hb))
            clear hV
            refine hK.out _ _ ?_ (fun hHeld => ?_)
            · exact HS.out _ HVB.out
            clear hK K2
            try simp only [Act.put, List.setIfInBounds_toArray, List.set_cons_zero, List.set_cons_succ]
            refine wpAnyH_ready (rs := [16]) (by kernel_rfl) (by simp) ?_
            refine AllReadyH.cons (o := _) rfl (fun K2 hK => ?_) AllReadyH.nil
            go_simp
            refine hK.out _ _ ?_ (fun hHeld => ?_)
            · exact HS.out _ HVB.out
            clear hK K2
            try simp only [Act.put, List.setIfInBounds_toArray, List.set_cons_zero, List.set_cons_succ]
            refine wpAnyH_done (by kernel_rfl) ?_ _
            exact CONT V X rc er x y (HR7.out.done HVW.out HVC.out HXZ.out HVK.out)
        case cont =>
          rintro V X rc er x y ⟨hc, hXz, hkp, hcase⟩
          have HKV := Lib.hid (HKR.out V hkp)
          have HCV := Lib.hid hc
          have HXV := Lib.hid hXz
          have HKP := Lib.hid hkp
          clear hc hXz hkp
          rcases hcase with ⟨rfl, rfl, S6, hws, hI6⟩ | ⟨rfl, rfl, hws⟩
          case inr =>
            have HWV := Lib.hid hws
            clear hws
            go_wp2
            go_roundw
            case rel => exact ⟨i + 1, T', m, r, S, nums, by omega, by go_num, rfl, rfl, rfl, hTi, hm, by omega, HI1.out.at (Nat.le_refl _) (Nat.le_succ _), HWV.out, HKV.out.1, HKV.out.2.1, HNK.out, HKV.out.2.2⟩
            case measure => simp only [intOf]; omega
          have HWV := Lib.hid hws
          have HI6 := Lib.hid hI6
          clear hws hI6
          have hnx := HI1.out.nx k hk3
          have hnl : nums.length ≤ 100 := by have := HI1.out.ln; omega
          obtain ⟨nx, hnx2⟩ : ∃ nx, nx = (S.tms k).nx := ⟨_, rfl⟩
          have hnu : nu (Tp.sold S k T' x y) = mkB ((k + 1 : Nat) : Int) (nx : Int) := by rw [hnx2]; rfl
          rw [← hnx2] at HI6 hnx
          obtain ⟨bn, hbn⟩ : ∃ bn, bn = mkB ((k + 1 : Nat) : Int) (nx : Int) := ⟨_, rfl⟩
          have x0 : V.cell? ⟨X, 0, none⟩ = some (.string bn) := by
            rw [HCV.out.cell 0, hbn, ← hnu]; rfl
          have x3 : V.cell? ⟨X, 3, none⟩ = some (.int .i64 (Tp.fst T' : Nat)) := HCV.out.cell 3
          have xl := HCV.out.lt
          have HBN := Lib.hid hbn
          have hfl : Tp.fst T' ≤ 18 := Tp.fst_le hT16
          obtain ⟨ft, hft⟩ : ∃ ft, ft = Tp.fst T' := ⟨_, rfl⟩
          rw [← hft] at x3 hfl HI6
          have HNE := Lib.hid (show ∀ n ∈ nums, mkB (n.1 : Int) (n.2 : Int) ≠ bn from fun n hn e => by
            rw [HBN.out] at e
            have e2 := mkB_inj (HNK.out n hn) ⟨by omega, by omega, hnx.1, by omega⟩ e
            have hnd := HI6.out.nd
            rw [List.nodup_append] at hnd
            exact hnd.2.2 n hn _ (List.mem_singleton.2 rfl) e2)
          have HXN := Lib.hid (show ∀ n ∈ nums ++ [(k + 1, nx)], 1 ≤ n.1 ∧ n.1 ≤ 3 ∧ 1 ≤ n.2 ∧ n.2 ≤ 100 from fun n hn => by
            rcases List.mem_append.1 hn with c | c
            · exact HNK.out n c
            · rw [List.mem_singleton.1 c]
              exact ⟨by show 1 ≤ k + 1; omega, by show k + 1 ≤ 3; omega, hnx.1, by show nx ≤ 100; omega⟩)
          clear hnu hnx2 hft hbn
          go_wp2
          go_loopw [102] (fun vj wj => ∃ j : Nat, j ≤ nums.length ∧ vj = .int .i64 j ∧ V = wj) (fun vj _ => nums.length - (intOf vj).toNat)
          case atStart => exact ⟨0, by omega, rfl, rfl⟩
          case round =>
            obtain ⟨j, hj, rfl, hw⟩ := hrel
            subst hw
            by_cases hjn : j < nums.length
            case pos =>
              have hjn' : (j : Int) < (nums.length : Int) := by omega
              obtain ⟨rg, rfl⟩ : ∃ rg, na = some ⟨rg, 0, none⟩ := by
                rcases HKV.out.2.1.2 with ⟨e, _⟩ | ⟨g, cap, cur, hv, _⟩
                · simp at e; omega
                · simp at hv; exact ⟨g, hv.1⟩
              have s0 : V.cell? ⟨rg, j, none⟩ = some (.string (mkB (nums[j].1 : Int) (nums[j].2 : Int))) := by
                have := (ownsRow_range HKV.out.2.1).1 j (nuK nums[j]) (by rw [List.getElem?_map, List.getElem?_eq_getElem hjn]; rfl)
                rw [Nat.zero_add] at this
                exact this
              have hne : ((mkB (nums[j].1 : Int) (nums[j].2 : Int)).toList == bn.toList) = false := by
                rw [ByteArray.toList_eq, ByteArray.toList_eq, beq_eq_false_iff_ne]
                exact fun e => HNE.out nums[j] (List.getElem_mem hjn) (bytes_of e)
              go_wp2
              exact ⟨⟨j + 1, by omega, by simp, trivial⟩, by simp only [intOf]; omega⟩
            obtain rfl : j = nums.length := by omega
            obtain ⟨i1, hi1, hy0, hy1, hy2⟩ := info_parts infoSt
            have hpV : p ≤ V.heap.size := HWV.out.Bw
            have HV1 := Lib.hid (show WS (V.alloc (.cells #[.string bn] 9)) p a0 p q S6 (fun b => b = al ∨ (Value.slice na nums.length nk).ownBlock = some b) from HWV.out.same ((Below.refl _ _).alloc (Nat.le_refl _) _))
            have HXO := Lib.hid (show ∀ g, (Value.slice na nums.length nk).ownBlock = some g → g ≠ X ∧ g ≠ al from fun g hg => by
              refine ⟨fun e => ?_, fun e => ?_⟩
              · have := HWZ.out.zlt g (.inr hg)
                have := HXV.out
                omega
              · subst e
                rcases HKV.out.2.1.2 with ⟨c, _⟩ | ⟨g', cap, cur, hv, _, hh, _⟩
                · rw [c] at hg; cases hg
                · rw [hv] at hg
                  cases hg
                  have h2 : V.heap[g']? = _ := HKV.out.1
                  rw [hh] at h2
                  simp at h2)
            go_wp2_with (first
              | (refine wpList_append_lies _ rfl _ _ _ rfl p 9 i1 _ 1 16 Tryz.underlying36 hi1 hy0 hy1 hy2 rfl (by omega) (.slice na nums.length nk) nums.length (nums.map nuK) rfl (HKV.out.2.1.alloc _) ⟨V.heap.size, 0, none⟩ 1 1 [.string bn] rfl rfl (World.news_of_block (cs := #[.string bn]) (t := 9) (fr := (0, 0)) (heap_alloc_new V _)) (by simp [Value.oneCell']) (by omega) (by unfold maxLen; omega) (by omega) (by simp; omega) (V.heap.size + 1) (by simp) ?_
                 intro g2 cap2 w4 hown hgrow hat hlt4
                 have HOW := Lib.hid hown
                 have HGW := Lib.hid hgrow
                 have HAT := Lib.hid hat
                 have HLW := Lib.hid hlt4
                 have hX4 : Cel w4 X (rcC a0 (Tp.sold S k T' x y)) 44 := (HCV.out.alloc _).grow hgrow (fun e => (HXO.out X e).1 rfl)
                 have y3 : w4.cell? ⟨X, 3, none⟩ = some (.int .i64 ft) := by
                   rw [hX4.cell 3, ← HCV.out.cell 3]; exact x3
                 have yl := hX4.lt
                 clear hown hgrow hat hlt4 hX4 x0 x3 xl hi1 hy0 hy1 hy2)
              | fail)
            have hal1 : Below V.heap.size V (V.alloc (.cells #[.string bn] 9)) := (Below.refl _ _).alloc (Nat.le_refl _) _
            refine ⟨⟨i + 1, T', max m ft, r, S6, nums ++ [(k + 1, nx)], by omega, by simp, rfl, congrArg _ (by omega), rfl, hTi, by omega, by omega, HI6.out, ?_, ?_, ?_, HXN.out, ?_⟩, by simp only [intOf]; omega⟩
            · refine HV1.out.grow HGW.out (fun g hg => .inr hg) (fun b hb => ?_)
              rcases hb with c | c
              · exact .inl (.inl c)
              · cases c
                rcases HAT.out with d | d
                · exact .inl (.inr d)
                · exact .inr ⟨by simp; omega, HLW.out⟩
            · exact (Cel.alloc HKV.out.1 _).grow HGW.out (fun e => (HXO.out al e).2 rfl)
            · rw [List.length_append, List.map_append]
              have e : nuK (k + 1, nx) = .string bn := by rw [HBN.out]; rfl
              show w4.ownsRow p 9 1 _ _ (nums.map nuK ++ [nuK (k + 1, nx)])
              rw [e]
              exact HOW.out
            · exact (HKV.out.2.2.trans (hal1.mono hpV)).grown HGW.out (by simp; omega) (fun g hg => own_ge HKV.out.2.1 hg)
    have hlt' : (j : Int) < 3 := by omega
    have hj0 : (0 : Int) ≤ (j : Int) := by omega
    have HNT := Lib.hid (show Calls Tryz.prog 7 #[.int .i64 ((j : Int) + 1), .int .u64 a0, .int .i64 5] wr fun e w' => e = .returned (.pointer (some ⟨wr.heap.size, 0, none⟩)) ∧ Cel w' wr.heap.size (teC wr.heap.size (j + 1) a0 1 true (.slice none 0 0) (.slice none 0 0)) 73 ∧ Below wr.heap.size wr w' by
      rw [show ((j : Int) + 1) = ((j + 1 : Nat) : Int) by omega]
      exact teNew_any (j + 1) a0 wr)
    have HA2 := Lib.hid hA
    have HQ := Lib.hid hq
    have HNE := Lib.hid hne
    have HB := Lib.hid hb
    clear hA hq hne hb
    go_upto_region 11 with (first
      | (go_at_call 7
         (with_reducible refine HNT.out.mono ?_)
         rintro e w5 ⟨rfl, hc, hb5⟩
         have HC := Lib.hid hc
         have HB5 := Lib.hid hb5
         have hA5 := HA2.out.below hb5 HA2.out.lt
         have HA5 := Lib.hid hA5
         have f5 := hA5.free j
         have l5 := hA5.lt
         have c5 : w5.cell? ⟨al, j, none⟩ = some (.pointer none) := by
           rw [hA5.cell j]
           rcases (show j = 0 ∨ j = 1 ∨ j = 2 by omega) with rfl | rfl | rfl <;> rfl
         clear hc hb5 hA5)
      | fail)
    obtain ⟨W6, hW6⟩ : ∃ W6, W6 = w5.setCell ⟨al, j, none⟩ (.pointer (some ⟨wr.heap.size, 0, none⟩)) := ⟨_, rfl⟩
    rw [← hW6]
    have hne5 : wr.heap.size ≠ al := by have := HA2.out.lt; omega
    have HA6 := Lib.hid (show Cel W6 al (alC (fun k => if k = j then wr.heap.size else q k) (j + 1)) 34 by rw [hW6, ← alC_set q j wr.heap.size hlt]; exact HA5.out.set j _)
    have HC6 := Lib.hid (show Cel W6 wr.heap.size (teC wr.heap.size (j + 1) a0 1 true (.slice none 0 0) (.slice none 0 0)) 73 by rw [hW6]; exact HC.out.other (a := ⟨al, j, none⟩) hne5 _)
    have HX6 := Lib.hid (show Below al w3 W6 by
      rw [hW6]
      exact (HB.out.trans (HB5.out.mono (Nat.le_of_lt HA2.out.lt))).setCell (Nat.le_refl _) _)
    have HQ6 := Lib.hid (show ∀ k, k < j → Cel W6 (q k) (teC (q k) (k + 1) a0 1 true (.slice none 0 0) (.slice none 0 0)) 73 ∧ al < q k ∧ q k < wr.heap.size from fun k hk => by
      have h1 := HQ.out k hk
      refine ⟨?_, h1.2, h1.1.lt⟩
      rw [hW6]
      exact (h1.1.below HB5.out h1.1.lt).other (a := ⟨al, j, none⟩) (by show q k ≠ al; omega) _)
    have c6 : W6.cell? ⟨al, j, none⟩ = some (.pointer (some ⟨wr.heap.size, 0, none⟩)) := by
      rw [HA6.out.cell j]
      rcases (show j = 0 ∨ j = 1 ∨ j = 2 by omega) with rfl | rfl | rfl <;> simp [alC]
    have l6 := HA6.out.lt
    have hal6 : al < wr.heap.size := HA2.out.lt
    clear hW6 f5 l5 c5 HA5 HC HB5 HQ HA2 HNT
    go_wp2
    refine ⟨⟨j + 1, fun k => if k = j then wr.heap.size else q k, by omega, by simp, HA6.out, fun k hk => ?_, fun k l hk hl hkl => ?_, HX6.out⟩, by simp only [intOf]; omega⟩
    · by_cases e : k = j
      · subst e; simp only [if_true]; exact ⟨HC6.out, hal6⟩
      · simp only [if_neg e]
        have := HQ6.out k (by omega)
        exact ⟨this.1, this.2.1⟩
    · by_cases e : k = j
      · have e2 : l ≠ j := fun c => hkl (e.trans c.symm)
        simp only [if_pos e, if_neg e2]
        have := (HQ6.out l (by omega)).2.2
        omega
      · by_cases e2 : l = j
        · simp only [if_neg e, if_pos e2]
          have := (HQ6.out k (by omega)).2.2
          omega
        · simp only [if_neg e, if_neg e2]
          exact HNE.out k l (by omega) (by omega) hkl
end Go.Proofs.YtnnocbelgfhecaaGreatDoor
