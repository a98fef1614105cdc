/- The register: Tickets (begun: partaking). -/
import Derived.Test.YtnnocbelgfhecaaGreatDoorTwy
import Derived.Deep.Cut
import Derived.Great.BuildSlice
set_option linter.unusedSimpArgs false
namespace Go.Proofs.YtnnocbelgfhecaaGreatDoor
open Go.ChangeShapes Go.WideShapes Go.ChangeAt Go.RowKit Go.Lott
/-- The places below j of the tickets of a draw. -/
def pI (ls : List Tp.Tk) (d j : Nat) : List Nat := (List.range j).filter fun i => decide ((ls[i]?).map (fun t => Tp.fst t.at_) = some d)
theorem pI_len (ls : List Tp.Tk) (d j : Nat) : (pI ls d j).length ≤ j := by
  have := List.length_filter_le (fun i => decide ((ls[i]?).map (fun t => Tp.fst t.at_) = some d)) (List.range j)
  rwa [List.length_range] at this
theorem pI_succ (ls : List Tp.Tk) (d j : Nat) : pI ls d (j + 1) = if (ls[j]?).map (fun t => Tp.fst t.at_) = some d then pI ls d j ++ [j] else pI ls d j := by
  unfold pI
  rw [List.range_succ, List.filter_append]
  by_cases h : (ls[j]?).map (fun t => Tp.fst t.at_) = some d
  · rw [if_pos h]; simp only [List.filter_cons, List.filter_nil, decide_eq_true h, if_true]
  · rw [if_neg h]; simp only [List.filter_cons, List.filter_nil, decide_eq_false h, Bool.false_eq_true, if_false, List.append_nil]
theorem tk_one {τ : Rl} {w : World} {q : Tp.Tk × Value} {x y : Int} (h : UOk τ w q.2 x y) : ((tkC q).toArray.all fun x => x.oneCell') = true := by
  obtain ⟨t, u⟩ := q
  obtain ⟨b, o, c, mb, mo, mc, e, _⟩ := h
  dsimp only at e
  subst e
  kernel_rfl
theorem tks_at : ∀ (ls : List (Tp.Tk × Value)) (j : Nat) (hj : j < ls.length) (i : Nat), i < (tkC ls[j]).length → (tkCs ls)[j * 14 + i]? = (tkC ls[j])[i]?
  | t :: l, 0, _, i, hi => by
    unfold tkCs
    rw [List.flatMap_cons]
    simp only [Nat.zero_mul, Nat.zero_add, List.getElem_cons_zero] at hi ⊢
    exact List.getElem?_append_left hi
  | t :: l, j + 1, hj, i, hi => by
    have h7 : (tkC t).length = 14 := rfl
    unfold tkCs
    rw [List.flatMap_cons, List.getElem?_append_right (by omega), h7, show (j + 1) * 14 + i - 14 = j * 14 + i by omega]
    simp only [List.getElem_cons_succ] at hi ⊢
    exact tks_at l j (by simpa using hj) i hi
section
variable {w : World} {B p m c gb gc pm : Nat} {τ : Rl} {key : Int} {v tv : Value} {ls : List (Tp.Tk × Value)} {U : Nat → Int → Prop} {cs : Array Value} {gs gm : Nat → Nat} {D : DataW Unit}
set_option maxHeartbeats 4000000 in
set_option maxRecDepth 100000 in
theorem part_any (h : RObj w B τ p key v ls m c U cs gb gc pm tv gs gm D) (d : Nat) (hd : d ≤ 100) (hll : ls.length ≤ 1000) (hfs : ∀ q ∈ ls, Tp.fst q.1.at_ ≤ 100000) : Calls Tryz.prog 48 #[.pointer (some ⟨p, 0, none⟩), .string nmB, .int .i64 d] w fun e w' => ∃ u, e = .returned u ∧
    w'.ownsRow w.heap.size 3 1 u (pI (ls.map Prod.fst) d ls.length).length ((pI (ls.map Prod.fst) d ls.length).map fun i : Nat => Value.int .i64 (i : Int)) ∧ Below w.heap.size w w' := by
  obtain ⟨ta, tk, htv⟩ := own_slice h.tk
  subst htv
  have c1 : w.cell? ⟨p, 1, none⟩ = some (.slice ta ls.length tk) := by rw [h.cp.cell, h.c1]
  have pl := h.cp.lt
  have HO := Lib.hid h
  clear h
  go_enter Tryz.func48, Tryz.ntmps48
  go_wp2
  go_loopw [15, 7] (fun i r wr => ∃ j : Nat, j ≤ ls.length ∧ i = .int .i64 j ∧ wr.ownsRow w.heap.size 3 1 r (pI (ls.map Prod.fst) d j).length ((pI (ls.map Prod.fst) d j).map fun i : Nat => Value.int .i64 (i : Int)) ∧ Below w.heap.size w wr) (fun i _ _ => ls.length - (intOf i).toNat)
  case atStart =>
    exact ⟨0, by omega, rfl, ⟨rfl, .inl ⟨rfl, rfl⟩⟩, Below.refl _ _⟩
  case round =>
    obtain ⟨j, hj, rfl, hrow, hb⟩ := hrel
    by_cases hlt : j < ls.length
    case neg =>
      obtain rfl : j = ls.length := by omega
      have HRW := Lib.hid hrow
      have HB := Lib.hid hb
      obtain ⟨ra, rk, hrs⟩ := own_slice hrow
      subst hrs
      clear hrow hb c1
      go_wp2
      go_ret
      exact ⟨_, rfl, HRW.out, HB.out⟩
    have hlt' : (j : Int) < (ls.length : Int) := by omega
    have hO := HO.out.below hb
    obtain ⟨tg', rfl⟩ : ∃ tg', ta = some ⟨tg', 0, none⟩ := by
      rcases hO.tk.2 with ⟨e, _⟩ | ⟨g, cap, cur, hv, _⟩
      · simp at e; omega
      · simp at hv; exact ⟨g, hv.1⟩
    have hrg := (ownsRow_range hO.tk).1
    have HRG := Lib.hid (show wr.rangeAt tg' (j * 14) (tkC ls[j]) from fun i u hi => by
      have := hrg (j * 14 + i) u (by rw [← hi]; exact tks_at ls j hlt i (List.getElem?_eq_some_iff.1 hi).1)
      rwa [Nat.zero_add] at this)
    have HRW := Lib.hid hrow
    have HB := Lib.hid hb
    have HONE := Lib.hid (tk_one (hO.ut _ (List.getElem_mem hlt)))
    clear hrow hb hrg hO c1
    go_upto_region 5 with (first
      | (refine wpList_load_mid rfl 81 _ rfl tg' (j * 14) rfl (tkC ls[j]) _ HRG.out Tryz.underlying81 rfl (by kernel_rfl) ?_)
      | (refine wpList_store_row rfl 81 _ _ rfl wr.heap.size (tkC ls[j]).toArray rfl rfl 81 _ (Cel.new wr #[.string ⟨#[]⟩, .string ⟨#[]⟩, .slice none 0 0, .bool false, .int .i64 0, .int .i64 0, .string ⟨#[]⟩, .int .i64 0, .int .i64 0, .int .i64 0, .int .i64 0, .int .i64 0, .int .i64 0, .bool false] 81) (by kernel_rfl) (by kernel_rfl) HONE.out ?_)
      | fail)
    obtain ⟨Wn, hWn⟩ : ∃ Wn, Wn = (wr.alloc (.cells #[.string ⟨#[]⟩, .string ⟨#[]⟩, .slice none 0 0, .bool false, .int .i64 0, .int .i64 0, .string ⟨#[]⟩, .int .i64 0, .int .i64 0, .int .i64 0, .int .i64 0, .int .i64 0, .int .i64 0, .bool false] 81)).setRow wr.heap.size (tkC ls[j]).toArray := ⟨_, rfl⟩
    rw [← hWn]
    have HRN := Lib.hid (show Cel Wn wr.heap.size (tkC ls[j]).toArray 81 by rw [hWn]; exact setRow_heap _ _ _ _ _ _ (Cel.new wr _ 81))
    have HXN := Lib.hid (show Below wr.heap.size wr Wn by rw [hWn]; exact Below.row ((Below.refl _ _).alloc (Nat.le_refl _) _) (Nat.le_refl _) _)
    clear hWn
    have e1 : Wn.cell? ⟨wr.heap.size, 1, none⟩ = some (.string nmB) := HRN.out.cell 1
    have e4 : Wn.cell? ⟨wr.heap.size, 4, none⟩ = some (.int .i64 1) := HRN.out.cell 4
    have e7 : Wn.cell? ⟨wr.heap.size, 7, none⟩ = some (.int .i64 (Tp.fst ls[j].1.at_)) := HRN.out.cell 7
    have el := HRN.out.lt
    have hwz := HB.out.size
    have hwz2 : w.heap.size ≤ Wn.heap.size := Nat.le_trans hwz (Nat.le_of_lt el)
    obtain ⟨i1, hi1, hy0, hy1, hy2⟩ := info_parts infoIn
    have hF : Tp.fst ls[j].1.at_ ≤ 100000 := hfs _ (List.getElem_mem hlt)
    have hpl : (pI (ls.map Prod.fst) d j).length ≤ 1000 := Nat.le_trans (pI_len _ _ _) (by omega)
    obtain ⟨f, hf⟩ : ∃ f, f = Tp.fst ls[j].1.at_ := ⟨_, rfl⟩
    rw [← hf] at e7 hF
    have HRW2 := Lib.hid (ownsRow_same HRW.out (fun g hg => HXN.out.block g (own_lt HRW.out hg)))
    have hpj := pI_succ (ls.map Prod.fst) d j
    have hjm : (ls.map Prod.fst)[j]? = some ls[j].1 := by rw [List.getElem?_map, List.getElem?_eq_getElem hlt]; rfl
    rw [hjm] at hpj
    simp only [Option.map_some, Option.some.injEq] at hpj
    rw [← hf] at hpj
    have HPJ := Lib.hid hpj
    obtain ⟨ra, rk, hrs⟩ := own_slice HRW.out
    subst hrs
    clear hpj hjm hf
    by_cases hd2 : f = d
    · subst hd2
      go_wp2_with (first
        | (refine wpList_append_lies _ rfl _ _ _ rfl w.heap.size 3 i1 _ 1 8 Tryz.underlying71 hi1 hy0 hy1 hy2 rfl (by omega) (.slice ra _ rk) _ _ rfl (HRW2.out.alloc _) ⟨Wn.heap.size, 0, none⟩ 1 1 [.int .i64 j] rfl rfl (World.news_of_block (cs := #[.int .i64 j]) (t := 3) (fr := (0, 0)) (heap_alloc_new Wn _)) (by simp [Value.oneCell']) (by omega) (by unfold maxLen; omega) (by omega) (by simp; omega) (Wn.heap.size + 1) (by simp) ?_
           intro g2 cap2 w4 hown hgrow hat hlt4
           have HOW := Lib.hid hown
           have HGW := Lib.hid hgrow
           clear hown hgrow hat hlt4 hi1 hy0 hy1 hy2)
        | fail)
      refine ⟨⟨j + 1, by omega, by simp, ?_, ?_⟩, by simp only [intOf]; omega⟩
      · rw [HPJ.out, if_pos rfl, List.map_append, List.length_append]
        exact HOW.out
      · exact (HB.out.trans ((HXN.out.alloc HXN.out.size _).mono HB.out.size)).grown HGW.out (by simp; omega) (fun k hk => own_ge HRW.out hk)
    · have hb2 := HB.out.trans (HXN.out.mono HB.out.size)
      rcases (show f < d ∨ d < f by omega) with hd3 | hd3
      · go_wp2
        refine ⟨⟨j + 1, by omega, by simp, ?_, hb2⟩, by simp only [intOf]; omega⟩
        rw [HPJ.out, if_neg hd2]
        exact HRW2.out
      · go_wp2
        refine ⟨⟨j + 1, by omega, by simp, ?_, hb2⟩, by simp only [intOf]; omega⟩
        rw [HPJ.out, if_neg hd2]
        exact HRW2.out
end
end Go.Proofs.YtnnocbelgfhecaaGreatDoor
/- The register: copyTicket. -/
set_option linter.unusedSimpArgs false
namespace Go.Proofs.YtnnocbelgfhecaaGreatDoor
open Go.ChangeShapes Go.WideShapes Go.ChangeAt Go.RowKit Go.Lott
set_option maxHeartbeats 2000000 in
set_option maxRecDepth 100000 in
theorem cloI_any (b off n c : Nat) (news : List Value) (w : World) (hl : news.length = n * 1) (hn : n ≤ 1000) (hc : ∀ j u, news[j]? = some u → w.cell? ⟨b, off + j, none⟩ = some u) (h1 : ∀ u ∈ news, u.oneCell' = true) :
    Calls Tryz.prog 39 #[.slice (some ⟨b, off, none⟩) n c] w fun e w' => ∃ v', e = .returned v' ∧ w'.ownsRow w.heap.size 3 1 v' n news ∧ v' ≠ .slice none 0 0 ∧ Below w.heap.size w w' := by
  obtain ⟨i0, hi, hz0, hz1, hz2⟩ := info_parts infoIn
  have A : Aside (∀ j u, news[j]? = some u → w.cell? ⟨b, off + j, none⟩ = some u) := hc
  clear hc
  have q22 : ∀ (w : World) (a : Option Addr) (n c n' c' : Nat), (binOp .eql 71 (.slice a n c) (.slice none n' c')).run Tryz.prog w = .ok (.bool a.isNone) w := fun w a n c n' c' => Lib.run_eql_slice_nil w _ _ a n c n' c' Tryz.underlying71
  have u22 : ∀ w, Sem.run Tryz.prog (underlying 71) w = .ok (TypeDesc.slice 3) w := run_underlying Tryz.underlying71
  go_enter Tryz.func39, Tryz.ntmps39
  go_wp2_with (at_builtin; refine wpList_append_own _ rfl _ _ 71 rfl w.heap.size 3 i0 _ 1 8 Tryz.underlying71 hi hz0 hz1 hz2 rfl (by decide) _ _ _ rfl (World.ownsRow_made w #[] 0 (Nat.le_refl _) (Nat.zero_le _) (by simp)) ⟨b, off, none⟩ n c news rfl ?qc1 ?qc2 ?qc3 ?qc4 ?qc5 ?qc6 ?_)
  case qc1 => exact hl
  case qc2 =>
    intro j u hj
    rw [Addr.add_lit]
    exact Lib.cell?_alloc_some _ (A.out j u hj)
  case qc3 => exact h1
  case qc4 => unfold maxLen; omega
  case qc5 => omega
  case qc6 => simp
  intro v' w1 hown hgrow hnil
  go_wp2
  go_ret
  refine ⟨v', rfl, by simpa using hown, hnil, ?_⟩
  exact ((Below.refl _ w).alloc (Nat.le_refl _) _).grown hgrow (by simp) (by intro k hk; simp [Value.ownBlock] at hk; omega)
theorem cloI_nil (n c : Nat) (w : World) : Calls Tryz.prog 39 #[.slice none n c] w (RetS (.slice none 0 0) w) := by
  have q22 : ∀ (w : World) (a : Option Addr) (n c n' c' : Nat), (binOp .eql 71 (.slice a n c) (.slice none n' c')).run Tryz.prog w = .ok (.bool a.isNone) w := fun w a n c n' c' => Lib.run_eql_slice_nil w _ _ a n c n' c' Tryz.underlying71
  go_enter Tryz.func39, Tryz.ntmps39
  go_wp2
  go_ret
  exact ⟨rfl, rfl⟩
/-- A row of one line in a block of its own. -/
theorem line_row {B : Nat} {w : World} {v x y : Value} (h : w.ownsRow B 118 2 v 1 [x, y]) : ∃ g k, v = .slice (some ⟨g, 0, none⟩) 1 k ∧ B ≤ g ∧ g < w.heap.size ∧ 1 ≤ k ∧ ∃ cur, Cel w g cur 118 ∧ cur[0]? = some x ∧ cur[1]? = some y := by
  obtain ⟨h0, h⟩ := h
  rcases h with ⟨_, c⟩ | ⟨g, cap, cur, rfl, hg, hh, h1, h2, h3, h4⟩
  · cases c
  · have hc : Cel w g cur 118 := hh
    have k : ∀ j u, [x, y][j]? = some u → cur[j]? = some u := fun j u hj => by
      rw [← hj, ← h4, List.getElem?_take]
      have : j < 2 := (List.getElem?_eq_some_iff.1 hj).1
      rw [if_pos (by omega)]
      exact (Array.getElem?_toList).symm
    exact ⟨g, cap, rfl, hg, hc.lt, h1, cur, hc, k 0 _ rfl, k 1 _ rfl⟩
set_option maxHeartbeats 4000000 in
set_option maxRecDepth 100000 in
theorem copyT_any (t : Tp.Tk) (u : Value) (τ : Rl) (w : World) (h : UOk τ w u t.x t.y) : Calls Tryz.prog 49 #[.agg (tkC (t, u)).toArray] w fun e w' => ∃ g k, e = .returned (.agg (tkC (t, .slice (some ⟨g, 0, none⟩) 1 k)).toArray) ∧ Below w.heap.size w w' := by
  obtain ⟨b, o, c, mb, mo, mc, rfl, h1, t1, t2, h2, h3, h4, h5⟩ := h
  obtain ⟨_, _, _, _, _, _, e5, m1, m2, m3, m4⟩ := h5
  cases e5
  obtain ⟨W1, hW1⟩ : ∃ W1, W1 = (w.alloc (.cells (tkC (t, .slice (some ⟨b, o, none⟩) 1 c)).toArray 81)).alloc (.cells #[.string ⟨#[]⟩, .string ⟨#[]⟩, .slice none 0 0, .bool false, .int .i64 0, .int .i64 0, .string ⟨#[]⟩, .int .i64 0, .int .i64 0, .int .i64 0, .int .i64 0, .int .i64 0, .int .i64 0, .bool false] 81) := ⟨_, rfl⟩
  have hX : Below w.heap.size w W1 := by rw [hW1]; exact ((Below.refl _ _).alloc (Nat.le_refl _) _).alloc (by simp) _
  have HG := Lib.hid (show Cel W1 w.heap.size (tkC (t, .slice (some ⟨b, o, none⟩) 1 c)).toArray 81 by rw [hW1]; exact (Cel.new _ _ _).alloc _)
  have HR := Lib.hid (show Cel W1 (w.heap.size + 1) #[.string ⟨#[]⟩, .string ⟨#[]⟩, .slice none 0 0, .bool false, .int .i64 0, .int .i64 0, .string ⟨#[]⟩, .int .i64 0, .int .i64 0, .int .i64 0, .int .i64 0, .int .i64 0, .int .i64 0, .bool false] 81 by
    rw [hW1]
    have := Cel.new (w.alloc (.cells (tkC (t, .slice (some ⟨b, o, none⟩) 1 c)).toArray 81)) #[.string ⟨#[]⟩, .string ⟨#[]⟩, .slice none 0 0, .bool false, .int .i64 0, .int .i64 0, .string ⟨#[]⟩, .int .i64 0, .int .i64 0, .int .i64 0, .int .i64 0, .int .i64 0, .int .i64 0, .bool false] 81
    simpa using this)
  have HCT := Lib.hid (cloL_any b o 1 c [.slice (some ⟨mb, mo, none⟩) 2 mc, .slice none 0 0] W1 rfl (by omega) (fun j u hj => by
    have k := cell_same (hX.block b h2)
    rw [k]
    have hj2 : j < 2 := (List.getElem?_eq_some_iff.1 hj).1
    rcases (show j = 0 ∨ j = 1 by omega) with rfl | rfl <;> (cases hj; assumption)) (by intro u hu; rcases List.mem_cons.1 hu with rfl | hu; rfl; cases List.mem_singleton.1 hu; rfl))
  have HM := Lib.hid (show W1.cell? ⟨mb, mo, none⟩ = some (.int .i64 t.x) ∧ W1.cell? ⟨mb, mo + 1, none⟩ = some (.int .i64 t.y) ∧ mb < W1.heap.size from
    ⟨(cell_same (hX.block mb m2) _).trans m3, (cell_same (hX.block mb m2) _).trans m4, Nat.lt_of_lt_of_le m2 hX.size⟩)
  have HLT0 := Lib.hid (show w.heap.size < W1.heap.size from HG.out.lt)
  have HLT1 := Lib.hid (show w.heap.size + 1 < W1.heap.size from HR.out.lt)
  have HX := Lib.hid hX
  have HW := Lib.hid hW1
  have g2' : ((w.alloc (.cells (tkC (t, .slice (some ⟨b, o, none⟩) 1 c)).toArray 81)).alloc (.cells #[.string ⟨#[]⟩, .string ⟨#[]⟩, .slice none 0 0, .bool false, .int .i64 0, .int .i64 0, .string ⟨#[]⟩, .int .i64 0, .int .i64 0, .int .i64 0, .int .i64 0, .int .i64 0, .int .i64 0, .bool false] 81)).cell? ⟨w.heap.size, 2, none⟩ = some (.slice (some ⟨b, o, none⟩) 1 c) := by rw [← hW1]; exact HG.out.cell 2
  clear hX hW1 h2 h3 h4 m1 m3 m4
  go_enter Tryz.func49, Tryz.ntmps49
  go_wp2_with fail
  rw [← HW.out]
  refine HCT.out.mono ?_
  rintro e w2 ⟨v', rfl, hown, _, hb2⟩
  obtain ⟨g, k, rfl, hg1, hg2, hk1, cur, hcg, k0, k1⟩ := line_row hown
  have HC := Lib.hid hcg
  have HK0 := Lib.hid k0
  have HK1 := Lib.hid k1
  replace HG := Lib.hid (HG.out.below hb2 HG.out.lt)
  replace HR := Lib.hid (HR.out.below hb2 HR.out.lt)
  have hws := HX.out.size
  have hl0 := HLT0.out
  have hl1 := HLT1.out
  replace HX := Lib.hid (HX.out.trans (hb2.mono HX.out.size))
  replace HM := Lib.hid (show w2.cell? ⟨mb, mo, none⟩ = some (.int .i64 t.x) ∧ w2.cell? ⟨mb, mo + 1, none⟩ = some (.int .i64 t.y) ∧ mb < w2.heap.size ∧ mb < W1.heap.size from
    ⟨(cell_same (hb2.block mb HM.out.2.2) _).trans HM.out.1, (cell_same (hb2.block mb HM.out.2.2) _).trans HM.out.2.1, Nat.lt_of_lt_of_le HM.out.2.2 hb2.size, HM.out.2.2⟩)
  have hgf : g ≠ w.heap.size := by omega
  have g2 : w2.cell? ⟨w.heap.size, 2, none⟩ = some (.slice (some ⟨b, o, none⟩) 1 c) := HG.out.cell 2
  have f2 := HG.out.free 2
  have gl := HG.out.lt
  clear hown hb2 hcg k0 k1 g2' HW HCT
  go_upto_region 2 with fail
  obtain ⟨V, hV⟩ : ∃ V, V = w2.setCell ⟨w.heap.size, 2, none⟩ (.slice (some ⟨g, 0, none⟩) 1 k) := ⟨_, rfl⟩
  rw [← hV]
  have HG2 := Lib.hid (show Cel V w.heap.size (tkC (t, .slice (some ⟨g, 0, none⟩) 1 k)).toArray 81 by
    rw [hV]
    have := HG.out.set 2 (.slice (some ⟨g, 0, none⟩) 1 k)
    simpa [tkC] using this)
  have HR2 := Lib.hid (show Cel V (w.heap.size + 1) #[.string ⟨#[]⟩, .string ⟨#[]⟩, .slice none 0 0, .bool false, .int .i64 0, .int .i64 0, .string ⟨#[]⟩, .int .i64 0, .int .i64 0, .int .i64 0, .int .i64 0, .int .i64 0, .int .i64 0, .bool false] 81 by
    rw [hV]
    exact HR.out.other (a := ⟨w.heap.size, 2, none⟩) (by show w.heap.size + 1 ≠ w.heap.size; omega) _)
  have HC2 := Lib.hid (show Cel V g cur 118 by
    rw [hV]
    exact HC.out.other (a := ⟨w.heap.size, 2, none⟩) hgf _)
  have HX2 := Lib.hid (show Below w.heap.size w V by rw [hV]; exact HX.out.setCell (Nat.le_refl _) _)
  have HCI := Lib.hid (cloI_any mb mo 2 mc [.int .i64 t.x, .int .i64 t.y] V rfl (by omega) (fun j u hj => by
    rw [hV]
    have hj2 : j < 2 := (List.getElem?_eq_some_iff.1 hj).1
    rw [cell_st (a := ⟨w.heap.size, 2, none⟩) (show mb ≠ w.heap.size by omega)]
    rcases (show j = 0 ∨ j = 1 by omega) with rfl | rfl <;> cases hj
    · exact HM.out.1
    · exact HM.out.2.1) (by intro u hu; rcases List.mem_cons.1 hu with rfl | hu; rfl; cases List.mem_singleton.1 hu; rfl))
  have g2v : V.cell? ⟨w.heap.size, 2, none⟩ = some (.slice (some ⟨g, 0, none⟩) 1 k) := HG2.out.cell 2
  have gv0 : V.cell? ⟨g, 0, none⟩ = some (.slice (some ⟨mb, mo, none⟩) 2 mc) := (HC2.out.cell 0).trans HK0.out
  have gvl := HG2.out.lt
  have gcl := HC2.out.lt
  clear hV HG HR HC HX HM g2 f2 gl
  go_upto_region 3 with fail
  refine wp_loop_rounds 2 ?_
  rw [rounds_succ]
  go_upto_region 7 with (first
    | (go_at_call 39
       (with_reducible refine HCI.out.mono ?_)
       rintro e w3 ⟨v3, rfl, hown3, _, hb3⟩
       obtain ⟨a3, k3, hv3⟩ := own_slice hown3
       subst hv3
       have C3 := HC2.out.below hb3 gcl
       have c3 := C3.free 0
       have c4 := (C3.cell 0).trans HK0.out
       have l3 := C3.lt
       have HC3 := Lib.hid C3
       have HG3 := Lib.hid (HG2.out.below hb3 gvl)
       have HR3 := Lib.hid (HR2.out.below hb3 HR2.out.lt)
       have HX3 := Lib.hid (HX2.out.trans (hb3.mono HX2.out.size))
       clear C3 hown3 hb3 g2v gv0)
    | fail)
  obtain ⟨V2, hV2⟩ : ∃ V2, V2 = w3.setCell ⟨g, 0, none⟩ (.slice a3 2 k3) := ⟨_, rfl⟩
  rw [← hV2]
  have HC4 := Lib.hid (show Cel V2 g (cur.setIfInBounds 0 (.slice a3 2 k3)) 118 by rw [hV2]; exact HC3.out.set 0 _)
  have HG4 := Lib.hid (show Cel V2 w.heap.size (tkC (t, .slice (some ⟨g, 0, none⟩) 1 k)).toArray 81 by rw [hV2]; exact HG3.out.other (a := ⟨g, 0, none⟩) (fun e => hgf e.symm) _)
  have HR4 := Lib.hid (show Cel V2 (w.heap.size + 1) #[.string ⟨#[]⟩, .string ⟨#[]⟩, .slice none 0 0, .bool false, .int .i64 0, .int .i64 0, .string ⟨#[]⟩, .int .i64 0, .int .i64 0, .int .i64 0, .int .i64 0, .int .i64 0, .int .i64 0, .bool false] 81 by rw [hV2]; exact HR3.out.other (a := ⟨g, 0, none⟩) (by show w.heap.size + 1 ≠ g; omega) _)
  have HX4 := Lib.hid (show Below w.heap.size w V2 by rw [hV2]; exact HX3.out.setCell (by show w.heap.size ≤ g; omega) _)
  have d1 : V2.cell? ⟨g, 1, none⟩ = some (.slice none 0 0) := by
    rw [HC4.out.cell 1, Array.getElem?_setIfInBounds, if_neg (by decide)]
    exact HK1.out
  have d2 := HC4.out.free 1
  have d3 := HC4.out.lt
  clear c3 c4 l3 HC3 HG3 HR3 HX3 hV2 HG2 HR2 HC2 HX2 HCI gvl gcl
  go_upto_region 8 with (first
    | (go_at_call 39; (with_reducible refine (cloI_nil _ _ _).mono ?_); rintro e w' ⟨rfl, rfl⟩)
    | fail)
  obtain ⟨V3, hV3⟩ : ∃ V3, V3 = V2.setCell ⟨g, 1, none⟩ (.slice none 0 0) := ⟨_, rfl⟩
  rw [← hV3]
  have HG5 := Lib.hid (show Cel V3 w.heap.size (tkC (t, .slice (some ⟨g, 0, none⟩) 1 k)).toArray 81 by rw [hV3]; exact HG4.out.other (a := ⟨g, 1, none⟩) (fun e => hgf e.symm) _)
  have HR5 := Lib.hid (show Cel V3 (w.heap.size + 1) #[.string ⟨#[]⟩, .string ⟨#[]⟩, .slice none 0 0, .bool false, .int .i64 0, .int .i64 0, .string ⟨#[]⟩, .int .i64 0, .int .i64 0, .int .i64 0, .int .i64 0, .int .i64 0, .int .i64 0, .bool false] 81 by rw [hV3]; exact HR4.out.other (a := ⟨g, 1, none⟩) (by show w.heap.size + 1 ≠ g; omega) _)
  have HX5 := Lib.hid (show Below w.heap.size w V3 by rw [hV3]; exact HX4.out.setCell (by show w.heap.size ≤ g; omega) _)
  clear d1 d2 d3 HC4 HG4 HR4 HX4 hV3
  go_wp2
  rw [rounds_succ]
  go_wp2_with (first
    | (refine wpList_load_row rfl 81 _ rfl w.heap.size rfl _ _ _ _ HG5.out Tryz.underlying81 rfl (by kernel_rfl) ?_)
    | (refine wpList_store_row rfl 81 _ _ rfl (w.heap.size + 1) (tkC (t, .slice (some ⟨g, 0, none⟩) 1 k)).toArray rfl rfl 81 _ HR5.out (by kernel_rfl) (by kernel_rfl) (by kernel_rfl) ?_)
    | fail)
  have HR6 : Cel (V3.setRow (w.heap.size + 1) (tkC (t, .slice (some ⟨g, 0, none⟩) 1 k)).toArray) (w.heap.size + 1) (tkC (t, .slice (some ⟨g, 0, none⟩) 1 k)).toArray 81 := setRow_heap V3 (w.heap.size + 1) _ _ 81 (0, 0) HR5.out
  refine bodyPost_ret (v := .agg (tkC (t, .slice (some ⟨g, 0, none⟩) 1 k)).toArray) (results_cell_row Tryz.results49 _ _ (w.heap.size + 1) 81 _ (0, 0) _ rfl HR6 Tryz.underlying81 rfl (by kernel_rfl)) rfl ⟨_, _, rfl, ?_⟩
  exact Below.row HX5.out (Nat.le_succ _) _
end Go.Proofs.YtnnocbelgfhecaaGreatDoor
/- The register: Tickets. -/
set_option linter.unusedSimpArgs false
namespace Go.Proofs.YtnnocbelgfhecaaGreatDoor
open Go.ChangeShapes Go.WideShapes Go.ChangeAt Go.RowKit Go.Lott
theorem pI_lt {ls : List Tp.Tk} {d j i : Nat} (h : i ∈ pI ls d j) : i < j := by
  unfold pI at h
  exact List.mem_range.1 (List.mem_filter.1 h).1
theorem pI_at (ls : List Tp.Tk) (d : Nat) : ∀ n, n ≤ ls.length → (pI ls d n).filterMap (fun i => ls[i]?) = Tp.ofDraw (ls.take n) d
  | 0, _ => by simp [pI, Tp.ofDraw]
  | n + 1, h => by
    rw [pI_succ, List.take_succ_eq_append_getElem (by omega : n < ls.length)]
    have hn := pI_at ls d n (by omega)
    unfold Tp.ofDraw at hn ⊢
    rw [List.filter_append, ← hn, List.getElem?_eq_getElem (by omega : n < ls.length)]
    simp only [Option.map_some, Option.some.injEq]
    by_cases c : Tp.fst (ls[n]'(by omega)).at_ = d
    · rw [if_pos c, List.filterMap_append, List.filter_cons_of_pos (by unfold Tp.Tk.fr; simpa using c)]
      simp [List.getElem?_eq_getElem (by omega : n < ls.length)]
    · rw [if_neg c, List.filter_cons_of_neg (by unfold Tp.Tk.fr; simpa using c)]
      simp
theorem own_base {w : World} {base b2 : Nat} {e : TypeId} {size n : Nat} {v : Value} {xs : List Value} (h : w.ownsRow base e size v n xs) (hb : b2 ≤ base) : w.ownsRow b2 e size v n xs := by
  refine ⟨h.1, ?_⟩
  rcases h.2 with h2 | ⟨g, cap, cur, hv, hg, r⟩
  · exact .inl h2
  · exact .inr ⟨g, cap, cur, hv, Nat.le_trans hb hg, r⟩
section
variable {w : World} {B p m c gb gc pm : Nat} {τ : Rl} {key : Int} {v tv : Value} {ls : List (Tp.Tk × Value)} {U : Nat → Int → Prop} {cs : Array Value} {gs gm : Nat → Nat} {D : DataW Unit}
set_option maxHeartbeats 8000000 in
set_option maxRecDepth 100000 in
theorem tickets_any (h : RObj w B τ p key v ls m c U cs gb gc pm tv gs gm D) (d : Nat) (hd : d ≤ 100) (hll : ls.length ≤ 1000) (hfs : ∀ q ∈ ls, Tp.fst q.1.at_ ≤ 100000) : Calls Tryz.prog 23 #[.pointer (some ⟨p, 0, none⟩), .string nmB, .int .i64 d] w fun e w' =>
    ∃ u us, e = .returned u ∧ us.map Prod.fst = Tp.ofDraw (ls.map Prod.fst) d ∧ w'.ownsRow w.heap.size 81 14 u us.length (tkCs us) ∧ (∀ q ∈ us, ((tkC q).toArray.all fun x => x.oneCell') = true) ∧ Below w.heap.size w w' := by
  have HP := Lib.hid (part_any h d hd hll hfs)
  have pl := h.cp.lt
  have HO := Lib.hid h
  clear h
  go_enter Tryz.func23, Tryz.ntmps23
  go_wp2_with (first
    | (go_at_call 48
       (with_reducible refine HP.out.mono ?_)
       rintro e w1 ⟨u, rfl, hrow, hb1⟩
       have HR1 := Lib.hid hrow
       have HB1 := Lib.hid hb1
       obtain ⟨pa, pk, hpu⟩ := own_slice hrow
       subst hpu
       clear hrow hb1)
    | fail)
  obtain ⟨P, hP⟩ : ∃ P, P = pI (ls.map Prod.fst) d ls.length := ⟨_, rfl⟩
  rw [← hP] at HR1 ⊢
  have hPl : P.length ≤ 1000 := by rw [hP]; exact Nat.le_trans (pI_len _ _ _) hll
  have HPL := Lib.hid (show ∀ i ∈ P, i < ls.length from fun i hi => by rw [hP] at hi; exact pI_lt hi)
  have HPA := Lib.hid (show P.filterMap (fun i => (ls.map Prod.fst)[i]?) = Tp.ofDraw (ls.map Prod.fst) d by
    rw [hP]
    have := pI_at (ls.map Prod.fst) d ls.length (by simp)
    rwa [List.take_of_length_le (by simp)] at this)
  have HO1 := Lib.hid (HO.out.below HB1.out)
  have hwl := HB1.out.size
  clear hP HP HO hfs
  go_loopw [19, 7] (fun i r wr => ∃ j : Nat, j ≤ P.length ∧ i = .int .i64 j ∧ (∃ us, us.map Prod.fst = (P.take j).filterMap (fun i => (ls.map Prod.fst)[i]?) ∧ us.length = j ∧ wr.ownsRow w1.heap.size 81 14 r us.length (tkCs us) ∧ (∀ q ∈ us, ((tkC q).toArray.all fun x => x.oneCell') = true)) ∧ Below w1.heap.size w1 wr) (fun i _ _ => P.length - (intOf i).toNat)
  case atStart =>
    exact ⟨0, by omega, rfl, ⟨[], rfl, rfl, ⟨rfl, .inl ⟨rfl, rfl⟩⟩, fun q hq => by cases hq⟩, Below.refl _ _⟩
  case round =>
    obtain ⟨j, hj, rfl, ⟨us, hus, hul, hrow, hone⟩, hb⟩ := hrel
    have HONE := Lib.hid hone
    clear hone
    by_cases hlt : j < P.length
    case neg =>
      obtain rfl : j = P.length := by omega
      rw [List.take_length] at hus
      have HUS := Lib.hid hus
      have HRW := Lib.hid hrow
      have HB := Lib.hid hb
      obtain ⟨ra, rk, hrs⟩ := own_slice hrow
      subst hrs
      clear hrow hb hus
      go_wp2
      go_ret
      refine ⟨_, us, rfl, HUS.out.trans HPA.out, ?_, HONE.out, HB1.out.trans (HB.out.mono hwl)⟩
      exact own_base HRW.out hwl
    have hlt' : (j : Int) < (P.length : Int) := by omega
    have hO := HO1.out.below hb
    obtain ⟨ta, tk, htv⟩ := own_slice hO.tk
    subst htv
    obtain ⟨i, hi⟩ : ∃ i, i = P[j] := ⟨_, rfl⟩
    have hil : i < ls.length := by rw [hi]; exact HPL.out _ (List.getElem_mem hlt)
    have hil' : (i : Int) < (ls.length : Int) := by omega
    obtain ⟨tb, rfl⟩ : ∃ tb, ta = some ⟨tb, 0, none⟩ := by
      rcases hO.tk.2 with ⟨e, _⟩ | ⟨g, cap, cur, hv, _⟩
      · simp at e; omega
      · simp at hv; exact ⟨g, hv.1⟩
    obtain ⟨pg, rfl⟩ : ∃ pg, pa = some ⟨pg, 0, none⟩ := by
      rcases HR1.out.2 with ⟨e, _⟩ | ⟨g, cap, cur, hv, _⟩
      · simp at e; omega
      · simp at hv; exact ⟨g, hv.1⟩
    have c1 : wr.cell? ⟨p, 1, none⟩ = some (.slice (some ⟨tb, 0, none⟩) ls.length tk) := by rw [hO.cp.cell, hO.c1]
    have c2 : wr.cell? ⟨pg, j, none⟩ = some (.int .i64 i) := by
      have h1 := (ownsRow_range HR1.out).1 j (.int .i64 i) (by rw [List.getElem?_map, List.getElem?_eq_getElem hlt, hi]; rfl)
      rw [Nat.zero_add] at h1
      exact (cell_same (hb.block pg (own_lt HR1.out rfl)) j).trans h1
    have hpl := hO.cp.lt
    have hpg : pg < wr.heap.size := Nat.lt_of_lt_of_le (own_lt HR1.out rfl) hb.size
    have hrg := (ownsRow_range hO.tk).1
    have HRG := Lib.hid (show wr.rangeAt tb (i * 14) (tkC ls[i]) from fun k u hk => by
      have := hrg (i * 14 + k) u (by rw [← hk]; exact tks_at ls i hil k (List.getElem?_eq_some_iff.1 hk).1)
      rwa [Nat.zero_add] at this)
    have HCP := Lib.hid (show Calls Tryz.prog 49 #[.agg (tkC ls[i]).toArray] wr fun e w' => ∃ g k, e = .returned (.agg (tkC (ls[i].1, .slice (some ⟨g, 0, none⟩) 1 k)).toArray) ∧ Below wr.heap.size wr w' from copyT_any ls[i].1 ls[i].2 τ wr (hO.ut _ (List.getElem_mem hil)))
    have HUS := Lib.hid hus
    have HB := Lib.hid hb
    rw [hul] at hrow
    have HRW := Lib.hid hrow
    have HUL := Lib.hid hul
    obtain ⟨ra, rk, hrs⟩ := own_slice hrow
    subst hrs
    clear hul
    obtain ⟨i0, hi0, hz0, hz1, hz2⟩ := info_parts infoT
    have hwr := hb.size
    have HI := Lib.hid hi
    clear hO hrg hus hb hrow hi
    go_wp2_with (first
      | (refine wpList_load_mid rfl 81 _ rfl tb (i * 14) rfl (tkC ls[i]) _ HRG.out Tryz.underlying81 rfl (by kernel_rfl) ?_)
      | (go_at_call 49
         (with_reducible refine HCP.out.mono ?_)
         rintro e w2 ⟨g, k, rfl, hb2⟩
         have HB2 := Lib.hid hb2
         have hw2 := hb2.size
         have HRW2 := Lib.hid (ownsRow_same HRW.out (fun g hg => hb2.block g (own_lt HRW.out hg)))
         clear hb2)
      | (refine wpList_buildSlice rfl 57 81 1 _ rfl (tkC (ls[i].1, .slice (some ⟨g, 0, none⟩) 1 k)).toArray i0 _ Tryz.underlying57 hi0 hz0 (by omega) (by omega) (by rw [hz1]; kernel_rfl) ?_)
      | (refine wpList_append_lies _ rfl _ _ _ rfl w1.heap.size 81 i0 _ 14 152 Tryz.underlying57 hi0 hz0 hz1 hz2 rfl (by omega) (.slice ra j rk) j (tkCs us) rfl (HRW2.out.alloc _) ⟨w2.heap.size, 0, none⟩ 1 1 (tkC (ls[i].1, .slice (some ⟨g, 0, none⟩) 1 k)) rfl rfl (World.news_of_block (cs := (tkC (ls[i].1, .slice (some ⟨g, 0, none⟩) 1 k)).toArray) (t := 81) (fr := (0, 0)) (heap_alloc_new w2 _)) (by simp [tkC, Value.oneCell']) (by omega) (by unfold maxLen; omega) (by omega) (by simp; omega) (w2.heap.size + 1) (by simp) ?_
         intro g2 cap2 w4 hown hgrow hat hlt4
         have HOW := Lib.hid hown
         have HGW := Lib.hid hgrow
         clear hown hgrow hat hlt4 hi0 hz0 hz1 hz2)
      | fail)
    refine ⟨⟨j + 1, by omega, by simp, ⟨us ++ [(ls[i].1, .slice (some ⟨g, 0, none⟩) 1 k)], ?_, ?_, ?_, ?_⟩, ?_⟩, by simp only [intOf]; omega⟩
    · rw [List.take_succ_eq_append_getElem hlt, List.map_append, HUS.out, List.filterMap_append, ← HI.out]
      simp [hil]
    · rw [List.length_append, HUL.out]; rfl
    · rw [List.length_append, HUL.out, tkCs_snoc]
      exact HOW.out
    · intro q hq
      rcases List.mem_append.1 hq with c | c
      · exact HONE.out q c
      · cases List.mem_singleton.1 c
        kernel_rfl
    · exact ((HB.out.trans (HB2.out.mono hwr)).alloc (Nat.le_trans hwr hw2) _).grown HGW.out (by simp; omega) (fun k hk => own_ge HRW.out hk)
end
end Go.Proofs.YtnnocbelgfhecaaGreatDoor
/- The law's check of the register: fits. -/
set_option linter.unusedSimpArgs false
namespace Go.Lott.Tp
theorem key_inj {l : List Tk} (h : (l.map Tk.key).Nodup) {a b : Tk} (ha : a ∈ l) (hb : b ∈ l) (e : a.key = b.key) : a = b := by
  induction l with
  | nil => cases ha
  | cons x l ih =>
    rw [List.map_cons, List.nodup_cons] at h
    rcases List.mem_cons.1 ha with ea | ha2
    · rcases List.mem_cons.1 hb with eb | hb2
      · rw [ea, eb]
      · exact (h.1 (List.mem_map.2 ⟨b, hb2, by rw [← e, ea]⟩)).elim
    · rcases List.mem_cons.1 hb with eb | hb2
      · exact (h.1 (List.mem_map.2 ⟨a, ha2, by rw [e, eb]⟩)).elim
      · exact ih h.2 ha2 hb2 
theorem upto_nodup {l : List Tk} (h : (l.map Tk.key).Nodup) : ∀ n, ((upto l n).map Tk.key).Nodup
  | 0 => List.nodup_nil
  | n + 1 => by
    rw [upto, List.map_append, List.nodup_append]
    refine ⟨upto_nodup h n, h.sublist (List.filter_sublist.map _), fun a ha b hb e => ?_⟩
    obtain ⟨s, hs, rfl⟩ := List.mem_map.1 ha
    obtain ⟨t, ht, rfl⟩ := List.mem_map.1 hb
    have h1 := upto_mem.1 hs
    have h2 := List.mem_filter.1 ht
    have h3 := key_inj h h1.1 h2.1 e
    subst h3
    have := h2.2
    simp at this
    omega
end Go.Lott.Tp
namespace Go.Proofs.YtnnocbelgfhecaaGreatDoor
open Go.ChangeShapes Go.WideShapes Go.ChangeAt Go.RowKit Go.Lott
theorem nu_inj {t s : Tp.Tk} (ht : TkOk t) (hs : TkOk s) (h : nu t = nu s) : t.key = s.key := by
  unfold nu at h
  rw [(mk_yes ht.v).1, (mk_yes hs.v).1] at h
  have e2 : Num.mkL t.tm t.sq = Num.mkL s.tm s.sq := (bsL_list _).symm.trans ((congrArg (fun b : ByteArray => b.data.toList) h).trans (bsL_list _))
  obtain ⟨a1, a2, _⟩ := Num.mk_fine ht.v
  obtain ⟨b1, b2, _⟩ := Num.mk_fine hs.v
  have h1 := a1.symm.trans ((congrArg Num.tkT e2).trans b1)
  have h2 := a2.symm.trans ((congrArg Num.tkS e2).trans b2)
  unfold Tp.Tk.key
  rw [show t.tm = s.tm by omega, show t.sq = s.sq by omega]
def nuV (t : Tp.Tk) : Value := .string (nu t)
section
variable {w : World} {B p m c gb gc pm : Nat} {τ : Rl} {key : Int} {v tv : Value} {ls : List (Tp.Tk × Value)} {U : Nat → Int → Prop} {cs : Array Value} {gs gm : Nat → Nat} {D : DataW Unit}
set_option maxHeartbeats 8000000 in
set_option maxRecDepth 100000 in
theorem fits_any (h : RObj w B τ p key v ls m c U cs gb gc pm tv gs gm D) (g : Value) (hg : IsTier w g) (M : Nat) (hM : M ≤ 100) (hll : ls.length ≤ 1000) (hok : ∀ t ∈ ls.map Prod.fst, TkOk t ∧ t.fr ≤ M) (hnd : ((ls.map Prod.fst).map Tp.Tk.key).Nodup) :
    Calls Tryz.prog 13 #[.pointer (some ⟨p, 0, none⟩), .agg (gcs g), .int .i64 M] w (RetB (.bool true) w) := by
  obtain ⟨W1, hW1⟩ : ∃ W1, W1 = w.alloc (.cells (gcs g) 27) := ⟨_, rfl⟩
  have hX : Below w.heap.size w W1 := by rw [hW1]; exact (Below.refl _ _).alloc (Nat.le_refl _) _
  have HG := Lib.hid (show Cel W1 w.heap.size (gcs g) 27 by rw [hW1]; exact Cel.new _ _ _)
  have HO := Lib.hid (h.below hX)
  have HT := Lib.hid (hg.below hX (Nat.le_refl _))
  have HX := Lib.hid hX
  have HW := Lib.hid hW1
  have HOK := Lib.hid hok
  have HND := Lib.hid hnd
  obtain ⟨L, hL⟩ : ∃ L, L = ls.map Prod.fst := ⟨_, rfl⟩
  have HL := Lib.hid hL
  have hLl : L.length = ls.length := by rw [hL, List.length_map]
  have pl := h.cp.lt
  clear h hg hX hW1 hok hnd hL
  go_enter Tryz.func13, Tryz.ntmps13
  go_wp2
  rw [← HW.out]
  clear HW
  go_loopw [8, 7] (fun vn vs wr => ∃ n : Nat, 1 ≤ n ∧ n ≤ M + 1 ∧ vn = .int .i64 n ∧ wr.ownsRow W1.heap.size 9 1 vs (Tp.upto L (n - 1)).length ((Tp.upto L (n - 1)).map nuV) ∧ Below W1.heap.size W1 wr) (fun vn _ _ => M + 1 - (intOf vn).toNat)
  case atStart =>
    exact ⟨1, by omega, by omega, rfl, ⟨rfl, .inl ⟨rfl, rfl⟩⟩, Below.refl _ _⟩
  case round =>
    obtain ⟨n, hn1, hnM, rfl, hrow, hb⟩ := hrel
    by_cases hle : n ≤ M
    case neg =>
      obtain rfl : n = M + 1 := by omega
      have hup : (Tp.upto L M).length = L.length := Tp.upto_all (fun t ht => (HOK.out t (by rw [← HL.out]; exact ht)).2)
      have HLE := Lib.hid (len_any (HO.out.below hb))
      have HB := Lib.hid (HX.out.trans (hb.mono HX.out.size))
      obtain ⟨sa, sk, hvs⟩ := own_slice hrow
      subst hvs
      rw [Nat.add_sub_cancel, hup, hLl]
      have hgt : (M : Int) < ((M + 1 : Nat) : Int) := by omega
      clear hrow hb hup hLl
      go_wp2_with (first
        | (go_at_call 14; (with_reducible refine HLE.out.mono ?_); rintro e w' ⟨rfl, rfl⟩)
        | fail)
      go_ret
      exact ⟨ret_bool (by simp), HB.out⟩
    have hle' : (n : Int) ≤ (M : Int) := by omega
    obtain ⟨l0, hl0⟩ : ∃ l0, l0 = Tp.upto L (n - 1) := ⟨_, rfl⟩
    rw [← hl0] at hrow
    have HL0 := Lib.hid hl0
    have HRW := Lib.hid hrow
    have HB := Lib.hid hb
    have HG2 := Lib.hid (HG.out.below hb HG.out.lt)
    have g0 : wr.cell? ⟨w.heap.size, 0, none⟩ = some (.string nmB) := HG2.out.cell 0
    have gl := HG2.out.lt
    have HTI := Lib.hid (tickets_any (HO.out.below hb) n (by omega) hll (fun q hq => by
      have h1 := (HOK.out q.1 (List.mem_map.2 ⟨q, hq, rfl⟩)).2
      unfold Tp.Tk.fr at h1
      omega))
    have hwr := hb.size
    clear hrow hb hl0
    go_wp2_with (first
      | (go_at_call 23
         (with_reducible refine HTI.out.mono ?_)
         rintro e w2 ⟨u, us, rfl, hus, hrow, hone, hb2⟩
         have HONE := Lib.hid hone
         have HUS := Lib.hid hus
         have HUR := Lib.hid hrow
         have HB2 := Lib.hid hb2
         obtain ⟨ua, uk, hu⟩ := own_slice hrow
         subst hu
         clear hus hrow hb2 hone)
      | fail)
    obtain ⟨sa, sk, hvs⟩ := own_slice HRW.out
    subst hvs
    have hus2 : us.length = (Tp.ofDraw L n).length := by rw [← List.length_map (f := Prod.fst), HUS.out, HL.out]
    have hul : us.length ≤ 1000 := by rw [hus2]; exact Nat.le_trans (List.length_filter_le _ _) (by omega)
    obtain ⟨Dz, hDz⟩ : ∃ Dz, Dz = wr.heap.size := ⟨_, rfl⟩
    have hD1 : W1.heap.size ≤ Dz := by rw [hDz]; exact hwr
    have hD2 : Dz ≤ w2.heap.size := by rw [hDz]; exact HB2.out.size
    have HUO := Lib.hid (show ∀ g, (Value.slice ua us.length uk).ownBlock = some g → Dz ≤ g ∧ g < w2.heap.size from fun g hg => by rw [hDz]; exact ⟨own_ge HUR.out hg, own_lt HUR.out hg⟩)
    have HSD := Lib.hid (show ∀ g, (Value.slice sa l0.length sk).ownBlock = some g → g < Dz from fun g hg => by rw [hDz]; exact own_lt HRW.out hg)
    have HRW2 := Lib.hid (ownsRow_same HRW.out (fun g hg => HB2.out.block g (own_lt HRW.out hg)))
    have HBB := Lib.hid (HB.out.trans (HB2.out.mono hwr))
    have HLL := Lib.hid (show l0.length ≤ 1000 by
      rw [HL0.out, Tp.upto_len]
      exact Nat.le_trans (List.length_filter_le _ _) (by omega))
    have HUE := Lib.hid hus2
    rw [← hDz] at HUR
    clear hDz HB HRW HB2 HTI hwr g0 gl HG2 hus2
    go_loopw [26, 7] (fun vk vs wy => ∃ k : Nat, k ≤ us.length ∧ vk = .int .i64 k ∧ wy.ownsRow W1.heap.size 9 1 vs (l0 ++ (Tp.ofDraw L n).take k).length ((l0 ++ (Tp.ofDraw L n).take k).map nuV) ∧
      (∀ g, vs.ownBlock = some g → g < Dz ∨ w2.heap.size ≤ g) ∧ wy.ownsRow Dz 81 14 (.slice ua us.length uk) us.length (tkCs us) ∧ Below W1.heap.size W1 wy ∧ w2.heap.size ≤ wy.heap.size) (fun vk _ _ => us.length - (intOf vk).toNat)
    case atStart =>
      refine ⟨0, by omega, rfl, ?_, fun g hg => .inl (HSD.out g hg), HUR.out, HBB.out, Nat.le_refl _⟩
      rw [List.take_zero, List.append_nil]
      exact HRW2.out
    case round =>
      rename World => wy
      obtain ⟨k, hk, rfl, hrow, hso, hur, hb, hwy⟩ := hrel
      by_cases hlt : k < us.length
      case neg =>
        obtain rfl : k = us.length := by omega
        rw [HUE.out, List.take_length] at hrow
        have HRW := Lib.hid hrow
        have HB := Lib.hid hb
        obtain ⟨ra, rk, hrs⟩ := own_slice hrow
        subst hrs
        clear hrow hb hso hur
        go_wp2
        have hup : Tp.upto L n = l0 ++ Tp.ofDraw L n := by
          obtain ⟨n', rfl⟩ : ∃ n', n = n' + 1 := ⟨n - 1, by omega⟩
          rw [HL0.out, Nat.add_sub_cancel]; rfl
        refine ⟨⟨n + 1, by omega, by omega, by simp, ?_, HB.out⟩, by simp only [intOf]; omega⟩
        rw [Nat.add_sub_cancel, hup]
        exact HRW.out
      have hlt' : (k : Int) < (us.length : Int) := by omega
      have huk : us[k].1 ∈ Tp.ofDraw L n := by rw [HL.out, ← HUS.out]; exact List.mem_map.2 ⟨us[k], List.getElem_mem hlt, rfl⟩
      have huk2 : (Tp.ofDraw L n)[k]? = some us[k].1 := by rw [HL.out, ← HUS.out, List.getElem?_map, List.getElem?_eq_getElem hlt]; rfl
      obtain ⟨t, ht⟩ : ∃ t, t = us[k].1 := ⟨_, rfl⟩
      rw [← ht] at huk huk2
      have htL := (List.mem_filter.1 huk).1
      have hfr : t.fr = n := by have := (List.mem_filter.1 huk).2; simpa using this
      have hto := (HOK.out t (by rw [← HL.out]; exact htL)).1
      obtain ⟨ub, rfl⟩ : ∃ ub, ua = some ⟨ub, 0, none⟩ := by
        rcases hur.2 with ⟨e, _⟩ | ⟨g, cap, cur, hv, _⟩
        · simp at e; omega
        · simp at hv; exact ⟨g, hv.1⟩
      have hrg := (ownsRow_range hur).1
      obtain ⟨y, hy⟩ : ∃ y, y = us[k] := ⟨_, rfl⟩
      have hy1 : y.1 = t := by rw [hy, ht]
      have HRG := Lib.hid (show wy.rangeAt ub (k * 14) (tkC y) from fun i u hi => by
        rw [hy] at hi
        have := hrg (k * 14 + i) u (by rw [← hi]; exact tks_at us k hlt i (List.getElem?_eq_some_iff.1 hi).1)
        rwa [Nat.zero_add] at this)
      have HON := Lib.hid (HONE.out y (by rw [hy]; exact List.getElem_mem hlt))
      obtain ⟨T, hT⟩ : ∃ T, T = l0 ++ (Tp.ofDraw L n).take k := ⟨_, rfl⟩
      rw [← hT] at hrow
      have HTT := Lib.hid hT
      have HRW := Lib.hid hrow
      have HB := Lib.hid hb
      have HUR2 := Lib.hid hur
      have HSO := Lib.hid hso
      have HUK := Lib.hid huk2
      have HFR := Lib.hid hfr
      have HTO := Lib.hid hto
      have HTL := Lib.hid htL
      have HT1 := Lib.hid hy1
      obtain ⟨ra, rk, hrs⟩ := own_slice hrow
      subst hrs
      clear hrow hb hur hso huk huk2 ht htL hfr hto hrg hy hy1 hT
      go_upto_region 8 with (first
        | (refine wpList_load_mid rfl 81 _ rfl ub (k * 14) rfl (tkC y) _ HRG.out Tryz.underlying81 rfl (by kernel_rfl) ?_)
        | (refine wpList_store_row rfl 81 _ _ rfl wy.heap.size (tkC y).toArray rfl rfl 81 _ (Cel.new wy #[.string ⟨#[]⟩, .string ⟨#[]⟩, .slice none 0 0, .bool false, .int .i64 0, .int .i64 0, .string ⟨#[]⟩, .int .i64 0, .int .i64 0, .int .i64 0, .int .i64 0, .int .i64 0, .int .i64 0, .bool false] 81) (by kernel_rfl) (by kernel_rfl) HON.out ?_)
        | fail)
      obtain ⟨Wn, hWn⟩ : ∃ Wn, Wn = (wy.alloc (.cells #[.string ⟨#[]⟩, .string ⟨#[]⟩, .slice none 0 0, .bool false, .int .i64 0, .int .i64 0, .string ⟨#[]⟩, .int .i64 0, .int .i64 0, .int .i64 0, .int .i64 0, .int .i64 0, .int .i64 0, .bool false] 81)).setRow wy.heap.size (tkC y).toArray := ⟨_, rfl⟩
      rw [← hWn]
      have HRN := Lib.hid (show Cel Wn wy.heap.size (tkC y).toArray 81 by rw [hWn]; exact setRow_heap _ _ _ _ _ _ (Cel.new wy _ 81))
      have HXN := Lib.hid (show Below wy.heap.size wy Wn by rw [hWn]; exact Below.row ((Below.refl _ _).alloc (Nat.le_refl _) _) (Nat.le_refl _) _)
      clear hWn HRG
      have HBN := Lib.hid (HB.out.trans (HXN.out.mono HB.out.size))
      have HGN := Lib.hid (HG.out.below HBN.out HG.out.lt)
      have HCL := Lib.hid (show Calls Tryz.prog 24 #[.agg (gcs g), .int .i64 n] Wn (RetB (.tuple #[.int .i64 (((n : Int) - 1) * 10080 + 1200), .int .i64 0]) Wn) from close_any g n Wn (HT.out.below HBN.out (Nat.le_refl _)) (by omega) (by omega))
      obtain ⟨E, hE⟩ : ∃ E : Int, E = ((n : Int) - 1) * 10080 + 1200 := ⟨_, rfl⟩
      have hAE : (t.at_ : Int) < E := by
        have h1 := Tp.fst_open t.at_
        have h2 := HFR.out
        unfold Tp.Tk.fr at h2
        rw [h2] at h1
        unfold Tp.clo at h1
        omega
      rw [← hE] at HCL
      have e7 : Wn.cell? ⟨wy.heap.size, 7, none⟩ = some (.int .i64 n) := by
        have h1 := HRN.out.cell 7
        rw [h1]
        have h2 := HFR.out
        unfold Tp.Tk.fr at h2
        show some (Value.int .i64 (Tp.fst y.1.at_ : Nat)) = _
        rw [HT1.out, h2]
      have el := HRN.out.lt
      clear hE
      go_wp2_with (first
        | (refine wpList_load_row rfl 27 _ rfl w.heap.size rfl _ _ _ _ HGN.out Tryz.underlying27 rfl (by kernel_rfl) ?_)
        | (go_at_call 24
           (with_reducible refine HCL.out.mono ?_)
           rintro e w3 ⟨rfl, hb3⟩
           have HB3 := Lib.hid hb3
           have hR3 := HRN.out.below hb3 HRN.out.lt
           have HR3 := Lib.hid hR3
           have e9 : w3.cell? ⟨wy.heap.size, 9, none⟩ = some (.int .i64 t.at_) := by
             rw [hR3.cell 9]
             show some (Value.int .i64 (y.1.at_ : Nat)) = _
             rw [HT1.out]
           have e0 : w3.cell? ⟨wy.heap.size, 0, none⟩ = some (.string (nu t)) := by
             rw [hR3.cell 0]
             show some (Value.string (nu y.1)) = _
             rw [HT1.out]
           have el3 := hR3.lt
           clear hb3 hR3 e7 el)
        | fail)
      have HRW3 := Lib.hid (ownsRow_same HRW.out (fun g hg => (HB3.out.block g (Nat.lt_of_lt_of_le (own_lt HRW.out hg) HXN.out.size)).trans (HXN.out.block g (own_lt HRW.out hg))))
      have HUR3 := Lib.hid (ownsRow_same HUR2.out (fun g hg => (HB3.out.block g (Nat.lt_of_lt_of_le (own_lt HUR2.out hg) HXN.out.size)).trans (HXN.out.block g (own_lt HUR2.out hg))))
      have HX3 := Lib.hid (HBN.out.trans (HB3.out.mono HBN.out.size))
      have hwy3 : wy.heap.size ≤ w3.heap.size := Nat.le_of_lt el3
      have HNE := Lib.hid (show ∀ s ∈ T, nu s ≠ nu t from fun s hs e => by
        have hup : Tp.upto L n = l0 ++ Tp.ofDraw L n := by
          obtain ⟨n', rfl⟩ : ∃ n', n = n' + 1 := ⟨n - 1, by omega⟩
          rw [HL0.out, Nat.add_sub_cancel]; rfl
        have hnd := Tp.upto_nodup (l := L) (by rw [HL.out]; exact HND.out) n
        obtain ⟨hkl, hke⟩ := List.getElem?_eq_some_iff.1 HUK.out
        have hsp : Tp.ofDraw L n = (Tp.ofDraw L n).take k ++ (t :: (Tp.ofDraw L n).drop (k + 1)) := by
          conv => lhs; rw [← List.take_append_drop k (Tp.ofDraw L n), List.drop_eq_getElem_cons hkl, hke]
        have hsL : s ∈ L := by
          rw [HTT.out] at hs
          rcases List.mem_append.1 hs with c | c
          · rw [HL0.out] at c; exact (Tp.upto_mem.1 c).1
          · exact (List.mem_filter.1 (List.mem_of_mem_take c)).1
        have hso := (HOK.out s (by rw [← HL.out]; exact hsL)).1
        have hkk := nu_inj hso HTO.out e
        rw [hup, hsp, ← List.append_assoc, ← HTT.out, List.map_append, List.nodup_append] at hnd
        exact hnd.2.2 _ (List.mem_map.2 ⟨s, hs, rfl⟩) _ (List.mem_map.2 ⟨t, by simp, rfl⟩) hkk)
      have hTl : T.length ≤ 2000 := by
        rw [HTT.out, List.length_append]
        have h1 := HLL.out
        have h2 : ((Tp.ofDraw L n).take k).length ≤ k := by rw [List.length_take]; exact Nat.min_le_left _ _
        omega
      go_loopw [50] (fun vq wz => ∃ q : Nat, q ≤ T.length ∧ vq = .int .i64 q ∧ w3 = wz) (fun vq _ => T.length - (intOf vq).toNat)
      case atStart => exact ⟨0, by omega, rfl, rfl⟩
      case round =>
        obtain ⟨q, hq, rfl, hw⟩ := hrel
        subst hw
        by_cases hqt : q < T.length
        case pos =>
          have hqt' : (q : Int) < (T.length : Int) := by omega
          obtain ⟨rg, rfl⟩ : ∃ rg, ra = some ⟨rg, 0, none⟩ := by
            rcases HRW3.out.2 with ⟨e, _⟩ | ⟨g, cap, cur, hv, _⟩
            · simp at e; omega
            · simp at hv; exact ⟨g, hv.1⟩
          have s0 : w3.cell? ⟨rg, q, none⟩ = some (.string (nu T[q])) := by
            have := (ownsRow_range HRW3.out).1 q (.string (nu T[q])) (by rw [List.getElem?_map, List.getElem?_eq_getElem hqt]; rfl)
            rwa [Nat.zero_add] at this
          have hne : ((nu T[q]).toList == (nu t).toList) = false := by
            rw [ByteArray.toList_eq, ByteArray.toList_eq, beq_eq_false_iff_ne]
            exact fun e => HNE.out T[q] (List.getElem_mem hqt) (bytes_of e)
          go_wp2
          exact ⟨⟨q + 1, by omega, by simp, trivial⟩, by simp only [intOf]; omega⟩
        obtain rfl : q = T.length := by omega
        obtain ⟨i1, hi1, hy0, hy1, hy2⟩ := info_parts infoSt
        have hW3 : W1.heap.size ≤ w3.heap.size := HX3.out.size
        go_wp2_with (first
          | (refine wpList_append_lies _ rfl _ _ _ rfl W1.heap.size 9 i1 _ 1 16 Tryz.underlying36 hi1 hy0 hy1 hy2 rfl (by omega) (.slice ra T.length rk) T.length (T.map nuV) rfl (HRW3.out.alloc _) ⟨w3.heap.size, 0, none⟩ 1 1 [.string (nu t)] rfl rfl (World.news_of_block (cs := #[.string (nu t)]) (t := 9) (fr := (0, 0)) (heap_alloc_new w3 _)) (by simp [Value.oneCell']) (by omega) (by unfold maxLen; omega) (by omega) (by simp; omega) (w3.heap.size + 1) (by simp) ?_
             intro g2 cap2 w4 hown hgrow hat hlt4
             have HOW := Lib.hid hown
             have HGW := Lib.hid hgrow
             have HAT := Lib.hid hat
             clear hown hgrow hat hlt4 e0 hi1 hy0 hy1 hy2)
          | fail)
        have htk : (Tp.ofDraw L n).take (k + 1) = (Tp.ofDraw L n).take k ++ [t] := by
          obtain ⟨hkl, hke⟩ := List.getElem?_eq_some_iff.1 HUK.out
          rw [List.take_succ_eq_append_getElem hkl, hke]
        have hal : Below w3.heap.size w3 (w3.alloc (.cells #[.string (nu t)] 9)) := (Below.refl _ _).alloc (Nat.le_refl _) _
        refine ⟨⟨k + 1, by omega, by simp, ?_, ?_, ?_, ?_, ?_⟩, by simp only [intOf]; omega⟩
        · rw [htk, ← List.append_assoc, ← HTT.out, List.length_append, List.map_append]
          exact HOW.out
        · intro x hx
          cases hx
          rcases HAT.out with c | c
          · exact HSO.out _ c
          · refine .inr (Nat.le_trans (Nat.le_trans hwy hwy3) ?_)
            show w3.heap.size ≤ g2
            omega
        · refine ownsRow_same HUR3.out (fun x hx => ?_)
          have hx1 := HUO.out x hx
          have hx2 : x < w3.heap.size := own_lt HUR3.out hx
          refine (HGW.out.block x (Nat.lt_of_lt_of_le hx2 hal.size) (fun e => ?_)).trans (hal.block x hx2)
          rcases HSO.out x e.symm with c | c <;> omega
        · exact (HX3.out.alloc hW3 _).grown HGW.out (by simp; omega) (fun x hx => own_ge HRW3.out hx)
        · exact Nat.le_trans (Nat.le_trans hwy hwy3) (Nat.le_trans hal.size HGW.out.size)
end
end Go.Proofs.YtnnocbelgfhecaaGreatDoor
