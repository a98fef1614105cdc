/- The terminals: Waiting. -/
import Derived.Test.YtnnocbelgfhecaaGreatDoorTwu
import Derived.Laws.CopyRow
import Derived.Laws.OwnMore
set_option linter.unusedSimpArgs false
namespace Go.Proofs.YtnnocbelgfhecaaGreatDoor
open Go.ChangeShapes Go.WideShapes Go.ChangeAt Go.RowKit Go.Lott
theorem run_copy_rows {P : Program} (w : World) (dT sT ty elem : TypeId) (size g n dCap : Nat) (src : Option Addr) (sCap : Nat) (cur : Array Value) (t : TypeId) (cs : List Value)
    (hu : P.underlying dT = some (.slice elem)) (hs : (P.info? elem).map (·.size) = some size) (hg : w.heap[g]? = some (.cells cur t (0, 0))) (hcs : cs.length = n * size)
    (hsrc : ∀ a, src = some a → ∀ j v, cs[j]? = some v → w.cell? (a.add j) = some v) (hnil : src = none → n = 0) (hfit : cs.length ≤ cur.size) (h1 : ∀ v ∈ cs, v.oneCell' = true) :
    ∃ cs', (Builtin.copy_ #[dT, sT] ty #[.slice (some ⟨g, 0, none⟩) n dCap, .slice src n sCap]).run P w = .ok (goInt n) (w.setRow g cs') := by
  cases hq : P.info? elem with
  | none => simp [hq] at hs
  | some i =>
    have hi : i.size = size := by simpa [hq] using hs
    cases src with
    | none =>
      obtain rfl := hnil rfl
      refine ⟨cur, ?_⟩
      rw [setRow_self w g cur t (0, 0) hg]
      simp [Builtin.copy_, run_underlying hu, Builtin.lenOf, Builtin.firstCells, sizeOf, typeInfo, hq, storeCells]
    | some a =>
      have hl := run_loadCells_list (P := P) w a cs (hsrc a rfl)
      have hst := run_storeCells_at P g 0 t cs 0 cur w hg (by simpa using hfit) h1
      rw [hcs] at hl
      exact ⟨_, by simp [Builtin.copy_, run_underlying hu, Builtin.lenOf, Builtin.firstCells, sizeOf, typeInfo, hq, hi, hl, hst]; rfl⟩
section
variable {w : World} {B q id nx k : Nat} {σ : Rl} {key : Int} {on : Bool} {wt : List Tp.Tk} {wv pv : Value}
theorem rcs_len (key : Int) : ∀ wt : List Tp.Tk, (wt.flatMap fun t => (rcC key t).toList).length = wt.length * 7
  | [] => rfl
  | t :: l => by rw [List.flatMap_cons, List.length_append, rcs_len key l, List.length_cons]; have : (rcC key t).toList.length = 7 := rfl; omega
theorem teWait_any (h : TObj w B σ q id key nx on wt k wv pv) (h5 : wt.length ≤ 5) : Calls Tryz.prog 12 #[.pointer (some ⟨q, 0, none⟩)] w fun e w' => ∃ a c, e = .returned (.slice a wt.length c) ∧ Below w.heap.size w w' := by
  obtain ⟨wa, wk, rfl⟩ := own_slice h.wr
  obtain ⟨i0, hi0, hz0, hz1, hz2⟩ := info_parts infoRe
  obtain ⟨w1, hr, hown, hgr⟩ := run_makeSlice_full (P := Tryz.prog) (w := w) w.heap.size 48 44 i0 _ 7 Tryz.underlying48 hi0 hz0 hz1 .i64 .i64 wt.length (by omega) (by rw [hz2]; omega) (by unfold maxLen; omega) (Nat.le_refl _)
  have hb1 : Below w.heap.size w w1 := (Below.refl _ _).grown hgr (Nat.le_refl _) (fun k hk => by cases hk)
  have h1 := h.below hb1
  have hgw : ∃ cur, w1.heap[w.heap.size]? = some (.cells cur 44 (0, 0)) ∧ cur.size = wt.length * 7 := by
    rcases hown.2 with ⟨c, _⟩ | ⟨g, cap, cur, hv, hg, hh, x1, x2, x3, x4⟩
    · cases c
    · simp at hv
      obtain ⟨rfl, rfl⟩ := hv
      exact ⟨cur, hh, x3⟩
  obtain ⟨cur, hcur, hcz⟩ := hgw
  obtain ⟨cs', hcp⟩ := run_copy_rows (P := Tryz.prog) w1 48 48 3 44 7 w.heap.size wt.length wt.length wa wk cur 44 (wt.flatMap fun t => (rcC key t).toList) Tryz.underlying48 (by rw [hi0]; simp [hz1]) hcur (rcs_len key wt)
    (fun a ha j v hj => by
      subst ha
      rcases h1.wr.2 with ⟨c, _⟩ | ⟨g, cap, cur2, hv, hg, hh, x1, x2, x3, x4⟩
      · cases c
      · simp at hv
        obtain ⟨rfl, rfl⟩ := hv
        have hc : Cel w1 g cur2 44 := hh
        have hjl := (List.getElem?_eq_some_iff.1 hj).1
        rw [rcs_len] at hjl
        rw [Addr.add_lit, Nat.zero_add, hc.cell j, ← hj, ← x4, List.getElem?_take, if_pos (by omega)]
        exact (Array.getElem?_toList).symm)
    (fun e => by
      subst e
      rcases h1.wr.2 with ⟨_, c⟩ | ⟨g, cap, cur2, hv, _⟩
      · exact c
      · cases hv)
    (by rw [rcs_len]; omega)
    (fun v hv => by
      obtain ⟨t, _, ht⟩ := List.mem_flatMap.1 hv
      simp [rcC] at ht
      rcases ht with rfl | rfl | rfl | rfl | rfl | rfl | rfl <;> rfl)
  have p6 : w.cell? ⟨q, 6, none⟩ = some (.slice wa wt.length wk) := h.cp.cell 6
  have r6 : w1.cell? ⟨q, 6, none⟩ = some (.slice wa wt.length wk) := h1.cp.cell 6
  have HB := Lib.hid (Below.row hb1 (Nat.le_refl _) cs')
  clear h h1 hown hgr hb1 hcur hcz hi0 hz0 hz1 hz2
  go_enter Tryz.func12, Tryz.ntmps12
  go_wp2
  go_ret
  exact ⟨_, _, rfl, HB.out⟩
end
end Go.Proofs.YtnnocbelgfhecaaGreatDoor
/- The terminals: Restore. -/
set_option linter.unusedSimpArgs false
namespace Go.Proofs.YtnnocbelgfhecaaGreatDoor
open Go.ChangeShapes Go.WideShapes Go.ChangeAt Go.RowKit Go.Lott
section
variable {w : World} {B p m c gb gc pm q id nx : Nat} {τ σ : Rl} {key : Int} {v tv : Value} {ls : List (Tp.Tk × Value)} {U : Nat → Int → Prop} {cs : Array Value} {gs gm : Nat → Nat} {D : DataW Unit} {wt : List Tp.Tk} {wv pv : Value}
/-- The numbers taken behind those of a list. -/
def Uk (U : Nat → Int → Prop) (l : List Tp.Tk) : Nat → Int → Prop := fun j k => U j k ∨ ∃ t ∈ l, j = t.tm ∧ k = (t.sq : Int)
/-- What holds behind j rounds. -/
structure RsJ (w : World) (B : Nat) (τ : Rl) (p : Nat) (key : Int) (v : Value) (ls : List (Tp.Tk × Value)) (m c : Nat) (U : Nat → Int → Prop) (gb gc pm : Nat) (gs gm : Nat → Nat) (wt : List Tp.Tk) (n j : Nat) (r : Value) (wr : World) : Prop where
  ex : ∃ τ' acc cs' tv' D' nr, acc.map Prod.fst = (wt.take j).filter (Tp.fresh n) ∧
    RObj wr B τ' p key v (ls ++ acc) (m + acc.length) (c + acc.length) (Uk U ((wt.take j).filter (Tp.fresh n))) cs' gb gc pm tv' gs gm D' ∧ Fr τ w wr ∧ Gr τ τ' w.heap.size ∧
    nr + acc.length = j ∧ (∃ xs, wr.ownsRow w.heap.size 9 1 r nr xs) ∧ (∀ g, r.ownBlock = some g → τ' g = none)
theorem infoSt : (Tryz.prog.info? 9).map (fun i => (i.zero, i.size, i.bytes)) = some (some (.string ⟨#[]⟩), 1, 16) := by kernel_rfl
theorem Uk_snoc (U : Nat → Int → Prop) (l : List Tp.Tk) (t : Tp.Tk) : Uk U (l ++ [t]) = fun j q => Uk U l j q ∨ (j = t.tm ∧ q = (t.sq : Int)) := by
  funext j q
  apply propext
  unfold Uk
  constructor
  · rintro (h | ⟨t', ht, e⟩)
    · exact .inl (.inl h)
    · rcases List.mem_append.1 ht with c | c
      · exact .inl (.inr ⟨t', c, e⟩)
      · simp at c; subst c; exact .inr e
  · rintro ((h | ⟨t', ht, e⟩) | e)
    · exact .inl h
    · exact .inr ⟨t', List.mem_append_left _ ht, e⟩
    · exact .inr ⟨t, by simp, e⟩
theorem own_lt {w : World} {base : Nat} {e : TypeId} {size n : Nat} {v : Value} {xs : List Value} (h : w.ownsRow base e size v n xs) {g : Nat} (hg : v.ownBlock = some g) : g < w.heap.size := by
  rcases h.2 with ⟨rfl, _⟩ | ⟨g', cap, cur, rfl, _, hh, _⟩
  · cases hg
  · cases hg
    exact (Array.getElem?_eq_some_iff.1 hh).1
theorem own_ge {w : World} {base : Nat} {e : TypeId} {size n : Nat} {v : Value} {xs : List Value} (h : w.ownsRow base e size v n xs) {g : Nat} (hg : v.ownBlock = some g) : base ≤ g := by
  rcases h.2 with ⟨rfl, _⟩ | ⟨g', cap, cur, rfl, hb, _⟩
  · cases hg
  · cases hg
    exact hb
theorem key_ne {wt : List Tp.Tk} (hnd : (wt.map Tp.Tk.key).Nodup) {i j : Nat} (hij : i < j) (hj : j < wt.length) : (wt[i]'(by omega)).key ≠ wt[j].key := by
  have := List.pairwise_iff_getElem.1 hnd i j (by simp; omega) (by simp; omega) hij
  simpa using this
theorem rcs_at (key : Int) : ∀ (wt : List Tp.Tk) (j : Nat) (hj : j < wt.length) (i : Nat), i < (rcC key wt[j]).toList.length → (wt.flatMap fun t => (rcC key t).toList)[j * 7 + i]? = (rcC key wt[j]).toList[i]?
  | t :: l, 0, _, i, hi => by
    rw [List.flatMap_cons]
    simp only [Nat.zero_mul, Nat.zero_add, List.getElem_cons_zero] at hi ⊢
    exact List.getElem?_append_left hi
  | t :: l, j + 1, hj, i, hi => by
    have h7 : (rcC key t).toList.length = 7 := rfl
    rw [List.flatMap_cons, List.getElem?_append_right (by omega), h7, show (j + 1) * 7 + i - 7 = j * 7 + i by omega]
    simp only [List.getElem_cons_succ] at hi ⊢
    exact rcs_at key l j (by simpa using hj) i hi
set_option maxHeartbeats 8000000 in
set_option maxRecDepth 100000 in
theorem restore_any (h : RObj w B τ p key v ls m c U cs gb gc pm tv gs gm D) (hl : Lv B w) (hT : TObj w B σ q id key nx false wt wt.length wv pv) (hd : ∀ b, σ b ≠ none → τ b = none) (n : Nat) (hn : n ≤ 160000)
    (hw : ∀ t ∈ wt, TkOk t ∧ t.at_ ≤ n ∧ ¬ U t.tm t.sq) (hnd : (wt.map Tp.Tk.key).Nodup) (h5 : wt.length ≤ 5) (hm : m ≤ 900) (hcc : c ≤ 900) (hll : ls.length ≤ 900) :
    Calls Tryz.prog 9 #[.pointer (some ⟨q, 0, none⟩), .pointer (some ⟨p, 0, none⟩), .int .i64 n] w fun e w' => ∃ a nr k, e = .returned (.tuple #[.slice a nr k, .int .i64 0]) ∧ ∃ τ' acc cs' tv' D', acc.map Prod.fst = wt.filter (Tp.fresh n) ∧ nr + acc.length = wt.length ∧
      RObj w' B τ' p key v (ls ++ acc) (m + acc.length) (c + acc.length) (Uk U (wt.filter (Tp.fresh n))) cs' gb gc pm tv' gs gm D' ∧ (∃ σ', TObj w' B σ' q id key nx true [] 0 (.slice none 0 0) (.slice none 0 0) ∧ ∀ b, σ' b ≠ none → σ b ≠ none) ∧ Fr (un τ σ) w w' ∧ Gr τ τ' w.heap.size := by
  obtain ⟨wa, wk, hwv⟩ := own_slice hT.wr
  obtain ⟨pa, pk, hpv⟩ := own_slice hT.pr
  subst hwv hpv
  have q4 : w.cell? ⟨q, 4, none⟩ = some (.bool false) := hT.cp.cell 4
  have q6 : w.cell? ⟨q, 6, none⟩ = some (.slice wa wt.length wk) := hT.cp.cell 6
  have ql := hT.cp.lt
  have HO := Lib.hid h
  have HLV := Lib.hid hl
  have HT := Lib.hid hT
  have HD := Lib.hid hd
  have HWT := Lib.hid hw
  have HND := Lib.hid hnd
  have HLOW := Lib.hid (show ∀ b, τ b ≠ none → B ≤ b ∧ b < w.heap.size from h.low)
  clear h hl hT hd hw hnd
  go_enter Tryz.func9, Tryz.ntmps9
  go_wp2
  go_loopw [24, 8] (fun i r wr => ∃ j : Nat, j ≤ wt.length ∧ i = .int .i64 j ∧ RsJ w B τ p key v ls m c U gb gc pm gs gm wt n j r wr) (fun i _ _ => wt.length - (intOf i).toNat)
  case atStart =>
    refine ⟨0, by omega, rfl, ⟨τ, [], cs, tv, D, 0, rfl, ?_, Fr.refl _ _, Gr.refl _ _, rfl, ⟨[], rfl, .inl ⟨rfl, rfl⟩⟩, fun g hg => by cases hg⟩⟩
    have : Uk U ((wt.take 0).filter (Tp.fresh n)) = U := by funext a b; simp [Uk]
    rw [this]
    simpa using HO.out
  case round =>
    obtain ⟨j, hj, rfl, hR⟩ := hrel
    have hjr := hR
    by_cases hlt : j < wt.length
    case neg =>
      obtain rfl : j = wt.length := by omega
      obtain ⟨τ', acc, cs', tv', D', nr, ha, hO, hF, hG, hnr, ⟨xs, hrow⟩, hro⟩ := hR.ex
      obtain ⟨ra, rk, hrs⟩ := own_slice hrow
      subst hrs
      have hT2 := HT.out.fr hF HD.out
      have HC := Lib.hid (teConnect_any q id key nx false (.func (.func 21) #[.pointer (some ⟨q, 0, none⟩)] #[]) (.slice wa wt.length wk) (.slice pa wt.length pk) wr hT2.cp)
      have HA := Lib.hid ha
      have HO2 := Lib.hid hO
      have HF2 := Lib.hid hF
      have HG2 := Lib.hid hG
      have HNR := Lib.hid hnr
      have hqn : τ' q = none := Classical.byContradiction fun hc => by
        rcases hG q hc with d | d
        · exact d (HD.out q (by rw [HT.out.tq]; simp))
        · omega
      have HQN := Lib.hid hqn
      clear hrow hro hR hjr hT2 ha hO hF hG hnr hqn q4 q6
      go_wp2_with (first
        | (go_at_call 20; (with_reducible refine HC.out.mono ?_)
           rintro e w2 ⟨rfl, hc2, hs2, hb2, hb3⟩
           have HB3 := Lib.hid hb3
           have HC2 := Lib.hid hc2
           have HS2 := Lib.hid hs2
           have HB2 := Lib.hid hb2
           clear hc2 hs2 hb2 hb3)
        | fail)
      refine bodyPost_ret (v := .tuple #[.slice ra nr rk, .int .i64 0]) (by simp [results, Tryz.results9, go_sem]) rfl ⟨ra, nr, rk, rfl, τ', acc, cs', tv', D', ?_, HNR.out, ?_, ⟨fun b => if b = q then some (0, 0) else none, ?_, ?_⟩, ?_, HG2.out⟩
      · have := HA.out
        rwa [List.take_length] at this
      · have := HO2.out.same (w1 := w2) (by rw [HS2.out]; exact Nat.le_refl _) (fun b hb => HB2.out b (fun e => hb (by rw [e]; exact HQN.out)))
        rwa [List.take_length] at this
      · have hql : q < w2.heap.size := HC2.out.lt
        have hqB := (HT.out.low q (by rw [HT.out.tq]; simp)).1
        exact {
          low := fun b hb => by
            split at hb
            · rename_i e; subst e; exact ⟨hqB, hql⟩
            · exact absurd rfl hb
          tq := by simp
          cp := HC2.out
          wr := ⟨rfl, .inl ⟨rfl, rfl⟩⟩
          pr := ⟨rfl, .inl ⟨rfl, rfl⟩⟩
          wT := fun g hg => by cases hg
          pT := fun g hg => by cases hg }
      · intro b hb
        dsimp only at hb
        split at hb
        · rename_i e; subst e; rw [HT.out.tq]; simp
        · exact absurd rfl hb
      · have f := HF2.out
        refine ⟨HB3.out.os.trans f.os, HB3.out.tape.trans f.tape, HB3.out.output.trans f.output, by rw [HS2.out]; exact f.size, fun b hb hn => ?_⟩
        obtain ⟨n1, n2⟩ := un_none hn
        rw [HB2.out b (fun e => by rw [e, HT.out.tq] at n2; cases n2)]
        exact f.block b hb n1
    have hlt' : (j : Int) < (wt.length : Int) := by omega
    obtain ⟨τ', acc, cs', tv', D', nr, ha, hO, hF, hG, hnr, ⟨xs, hrow⟩, hro⟩ := hR.ex
    obtain ⟨ra, rk, hrs⟩ := own_slice hrow
    subst hrs
    have hT2 := HT.out.fr hF HD.out
    obtain ⟨wg, rfl⟩ : ∃ wg, wa = some ⟨wg, 0, none⟩ := by
      rcases hT2.wr.2 with ⟨e, _⟩ | ⟨g, cap, cur, hv, _⟩
      · simp at e; omega
      · simp at hv; exact ⟨g, hv.1⟩
    have hrg := (ownsRow_range hT2.wr).1
    have HRG := Lib.hid (show wr.rangeAt wg (j * 7) (rcC key wt[j]).toList from fun i u hi => by
      have := hrg (j * 7 + i) u (by rw [← hi]; exact rcs_at key wt j hlt i (List.getElem?_eq_some_iff.1 hi).1)
      rwa [Nat.zero_add] at this)
    have HA := Lib.hid ha
    have HO2 := Lib.hid hO
    have HF2 := Lib.hid hF
    have HG2 := Lib.hid hG
    have HNR := Lib.hid hnr
    have HRW := Lib.hid hrow
    have HRO := Lib.hid hro
    have HT2 := Lib.hid hT2
    have hBw : B ≤ w.heap.size := Nat.le_trans (HLOW.out p (by rw [HO.out.tp]; simp)).1 (Nat.le_of_lt (HLOW.out p (by rw [HO.out.tp]; simp)).2)
    have HLR := Lib.hid (HLV.out.fr hF hBw (fun b hb => (HLOW.out b hb).1))
    have hwl : wk ≥ 0 := by omega
    clear hrow hro hR hjr hT2 ha hO hF hG hnr q4 q6 hrg
    go_wp2_with (first
      | (refine wpList_load_mid rfl 44 _ rfl wg (j * 7) rfl (rcC key wt[j]).toList _ HRG.out Tryz.underlying44 rfl (by kernel_rfl) ?_)
      | (refine wpList_store_row rfl 44 _ _ rfl wr.heap.size (rcC key wt[j]) rfl rfl 44 _ (Cel.new wr rcZ 44) (by kernel_rfl) (by kernel_rfl) (by kernel_rfl) ?_)
      | fail)
    obtain ⟨Wn, hWn⟩ : ∃ Wn, Wn = (wr.alloc (.cells #[.string ⟨#[]⟩, .string ⟨#[]⟩, .string ⟨#[]⟩, .int .i64 0, .int .i64 0, .int .i64 0, .int .u64 0] 44)).setRow wr.heap.size (rcC key wt[j]) := ⟨_, rfl⟩
    rw [← hWn]
    have HRN := Lib.hid (show Cel Wn wr.heap.size (rcC key wt[j]) 44 by rw [hWn]; exact setRow_heap _ _ _ _ _ _ (Cel.new wr rcZ 44))
    have HXN := Lib.hid (show Below wr.heap.size wr Wn by rw [hWn]; exact Below.row ((Below.refl _ _).alloc (Nat.le_refl _) _) (Nat.le_refl _) _)
    have HTN := Lib.hid (HT2.out.below HXN.out)
    have HON := Lib.hid (HO2.out.below HXN.out)
    have HLN := Lib.hid (HLR.out.below (HXN.out.mono (Nat.le_trans hBw HF2.out.size)))
    clear hWn
    obtain ⟨pg, rfl⟩ : ∃ pg, pa = some ⟨pg, 0, none⟩ := by
      rcases HTN.out.pr.2 with ⟨e, _⟩ | ⟨g, cap, cur, hv, _⟩
      · simp at e; omega
      · simp at hv; exact ⟨g, hv.1⟩
    have hpr := (ownsRow_range HTN.out.pr).1
    have s7 : Wn.cell? ⟨q, 7, none⟩ = some (.slice (some ⟨pg, 0, none⟩) wt.length pk) := HTN.out.cp.cell 7
    have sp : Wn.cell? ⟨pg, j, none⟩ = some (.int .i64 0) := by
      have := hpr j (.int .i64 0) (by rw [List.getElem?_replicate, if_pos hlt])
      rwa [Nat.zero_add] at this
    have sr : Wn.rangeAt wr.heap.size 0 (rcC key wt[j]).toList := fun i u hi => by
      rw [Nat.zero_add, HRN.out.cell i, ← hi]
      exact (Array.getElem?_toList).symm
    have hmem := List.getElem_mem hlt
    have hwt := HWT.out wt[j] hmem
    have hal : acc.length ≤ 5 := by have := HNR.out; omega
    have hacc := accept_any (HON.out.below (Below.refl _ _).drew) (HLN.out.below (Below.refl _ _).drew) wt[j] hwt.1 (fun hu => by
      rcases hu with hu | ⟨t', ht', e1, e2⟩
      · exact hwt.2.2 hu
      · have h1 := (List.mem_filter.1 ht').1
        obtain ⟨i, hi, he⟩ := List.mem_take_iff_getElem.1 h1
        have hij : i < j := by omega
        refine key_ne HND.out hij hlt ?_
        rw [he]
        simp only [Tp.Tk.key, Prod.mk.injEq]
        exact ⟨e1.symm, by omega⟩) (by omega) (by omega) (by rw [List.length_append]; omega) n hwt.2.1 hn
    have HAC := Lib.hid hacc
    clear hacc hpr
    refine wp_region_held_drew (S := fun y => y.rangeAt wr.heap.size 0 (rcC key wt[j]).toList ∧ y.cell? ⟨q, 7, none⟩ = some (.slice (some ⟨pg, 0, none⟩) wt.length pk) ∧ y.cell? ⟨pg, j, none⟩ = some (.int .i64 0)) (by kernel_rfl) ⟨sr, s7, sp⟩ (fun hHeld => ?_)
    have hlr : ∀ y : World, (y.rangeAt wr.heap.size 0 (rcC key wt[j]).toList ∧ y.cell? ⟨q, 7, none⟩ = some (.slice (some ⟨pg, 0, none⟩) wt.length pk) ∧ y.cell? ⟨pg, j, none⟩ = some (.int .i64 0)) → y.rangeAt wr.heap.size 0 (rcC key wt[j]).toList := fun y hy => hy.1
    refine wpAnyH_take (i := 0) (oi := _) (v := ?_) rfl (by kernel_rfl) (by kernel_rfl) (by kernel_rfl) (fun _ _ _ h => h) (Or.inl ⟨by rfl, ?_⟩) (by assumption) ?_
    rotate_left
    · (intro w hSw; (try dsimp only at hSw); go_simp; (try with_reducible rfl))
    simp only [Act.put, List.setIfInBounds_toArray, List.set_cons_zero, List.set_cons_succ]
    refine wpAnyH_take (i := 1) (oi := _) (v := _) rfl (by kernel_rfl) (by kernel_rfl) (by kernel_rfl) (fun _ _ _ h => h) (yieldsIf_load_mid (by rfl) 44 _ rfl wr.heap.size 0 rfl (rcC key wt[j]).toList _ hlr Tryz.underlying44 rfl (by kernel_rfl)) (by assumption) ?_
    simp only [Act.put, List.setIfInBounds_toArray, List.set_cons_zero, List.set_cons_succ]
    refine wpAnyH_take (i := 2) (oi := _) (v := ?_) rfl (by kernel_rfl) (by kernel_rfl) (by kernel_rfl) (fun _ _ _ h => h) (Or.inl ⟨by rfl, ?_⟩) (by assumption) ?_
    rotate_left
    · (intro w hSw; (try dsimp only at hSw); go_simp; (try with_reducible rfl))
    simp only [Act.put, List.setIfInBounds_toArray, List.set_cons_zero, List.set_cons_succ]
    refine wpAnyH_take (i := 3) (oi := _) (v := ?_) rfl (by kernel_rfl) (by kernel_rfl) (by kernel_rfl) (fun _ _ _ h => h) (Or.inl ⟨by rfl, ?_⟩) (by assumption) ?_
    rotate_left
    · (intro w hSw; (try dsimp only at hSw); go_simp; (try with_reducible rfl))
    simp only [Act.put, List.setIfInBounds_toArray, List.set_cons_zero, List.set_cons_succ]
    refine wpAnyH_take (i := 4) (oi := _) (v := ?_) rfl (by kernel_rfl) (by kernel_rfl) (by kernel_rfl) (fun _ _ _ h => h) (Or.inl ⟨by rfl, ?_⟩) (by assumption) ?_
    rotate_left
    · (intro w hSw; (try dsimp only at hSw); go_simp; (try with_reducible rfl))
    simp only [Act.put, List.setIfInBounds_toArray, List.set_cons_zero, List.set_cons_succ]
    refine wpAnyH_take (i := 5) (oi := _) (v := ?_) rfl (by kernel_rfl) (by kernel_rfl) (by kernel_rfl) (fun _ _ _ h => h) (Or.inl ⟨by rfl, ?_⟩) (by assumption) ?_
    rotate_left
    · (intro w hSw; (try dsimp only at hSw); go_simp; (try with_reducible rfl))
    simp only [Act.put, List.setIfInBounds_toArray, List.set_cons_zero, List.set_cons_succ]
    refine wpAnyH_take (i := 6) (oi := _) (v := ?_) rfl (by kernel_rfl) (by kernel_rfl) (by kernel_rfl) (fun _ _ _ h => h) (Or.inl ⟨by rfl, ?_⟩) (by assumption) ?_
    rotate_left
    · (intro w hSw; (try dsimp only at hSw); go_simp; (try with_reducible rfl))
    simp only [Act.put, List.setIfInBounds_toArray, List.set_cons_zero, List.set_cons_succ]
    refine wpAnyH_take (i := 7) (oi := _) (v := ?_) rfl (by kernel_rfl) (by kernel_rfl) (by kernel_rfl) (fun _ _ _ h => h) (Or.inl ⟨by rfl, ?_⟩) (by assumption) ?_
    rotate_left
    · (intro w hSw; (try dsimp only at hSw); go_simp; (try with_reducible rfl))
    simp only [Act.put, List.setIfInBounds_toArray, List.set_cons_zero, List.set_cons_succ]
    refine wpAnyH_take (i := 8) (oi := _) (v := ?_) rfl (by kernel_rfl) (by kernel_rfl) (by kernel_rfl) (fun _ _ _ h => h) (Or.inl ⟨by rfl, ?_⟩) (by assumption) ?_
    rotate_left
    · (intro w hSw; (try dsimp only at hSw); go_simp; (try with_reducible rfl))
    simp only [Act.put, List.setIfInBounds_toArray, List.set_cons_zero, List.set_cons_succ]
    refine wpAnyH_take (i := 9) (oi := _) (v := ?_) rfl (by kernel_rfl) (by kernel_rfl) (by kernel_rfl) (fun _ _ _ h => h) (Or.inl ⟨by rfl, ?_⟩) (by assumption) ?_
    rotate_left
    · (intro w hSw; (try dsimp only at hSw); go_simp; (try with_reducible rfl))
    simp only [Act.put, List.setIfInBounds_toArray, List.set_cons_zero, List.set_cons_succ]
    refine wpAnyH_ready (rs := [10]) (by kernel_rfl) (by simp) ?_
    refine AllReadyH.cons (o := _) rfl (fun K2 hK => ?_) AllReadyH.nil
    go_simp
    refine HAC.out.mono ?_
    have hqn : τ' q = none := Classical.byContradiction fun hc => by
      rcases HG2.out q hc with d | d
      · exact d (HD.out q (by rw [HT.out.tq]; simp))
      · omega
    have hpn : τ' pg = none := Classical.byContradiction fun hc => by
      have hpg := HT.out.pT pg rfl
      rcases HG2.out pg hc with d | d
      · exact d (HD.out pg (by rw [hpg]; simp))
      · have := (HT.out.low pg (by rw [hpg]; simp)).2; omega
    have hbn : τ' wr.heap.size = none := Classical.byContradiction fun hc => by have := (HO2.out.low _ hc).2; omega
    have hwn : wr.heap.size < Wn.heap.size := HRN.out.lt
    have hqw : q < Wn.heap.size := HTN.out.cp.lt
    have hpw : pg < Wn.heap.size := (ownsRow_range HTN.out.pr).2.2.2
    rintro e w2 (⟨hf, rfl, hb3⟩ | ⟨hf, rfl, τ2, u, cs2, tv2, D2, hO3, hF3, hG3⟩)
    · have HS2 := Lib.hid (show w2.rangeAt wr.heap.size 0 (rcC key wt[j]).toList ∧ w2.cell? ⟨q, 7, none⟩ = some (.slice (some ⟨pg, 0, none⟩) wt.length pk) ∧ w2.cell? ⟨pg, j, none⟩ = some (.int .i64 0) from
        ⟨range_same sr (hb3.block _ hwn), (cell_same (hb3.block q hqw) 7).trans s7, (cell_same (hb3.block pg hpw) j).trans sp⟩)
      have HB3 := Lib.hid hb3
      clear hb3
      go_wp2_with fail
      refine hK.out _ _ ?_ (fun hHeld => ?_)
      · exact HS2.out
      clear hK K2
      try simp only [Act.put, List.setIfInBounds_toArray, List.set_cons_zero, List.set_cons_succ]
      refine wpAnyH_ready (rs := [11]) (by kernel_rfl) (by simp) ?_
      refine AllReadyH.cons (o := _) rfl (fun K2 hK => ?_) AllReadyH.nil
      go_simp
      refine hK.out _ _ ?_ (fun hHeld => ?_)
      · exact HS2.out
      clear hK K2
      try simp only [Act.put, List.setIfInBounds_toArray, List.set_cons_zero, List.set_cons_succ]
      refine wpAnyH_done (by kernel_rfl) ?_ _
      have hb2 : Below wr.heap.size wr w2 := HXN.out.trans (((Below.refl Wn.heap.size Wn).drew.trans HB3.out).mono HXN.out.size)
      have HB2 := Lib.hid hb2
      have HRW2 := Lib.hid (ownsRow_same HRW.out (fun g hg => hb2.block g (own_lt HRW.out hg)))
      have r0 : w2.cell? ⟨wr.heap.size, 0, none⟩ = some (.string (nu wt[j])) := by
        have := HS2.out.1 0 (.string (nu wt[j])) rfl
        simpa using this
      have r1 : wr.heap.size < w2.heap.size := Nat.lt_of_lt_of_le hwn HB3.out.size
      obtain ⟨i1, hi1, hy0, hy1, hy2⟩ := info_parts infoSt
      have hwz := HF2.out.size
      have hnr := HNR.out
      clear hb2
      go_wp2_with (first
        | (refine wpList_append_lies _ rfl _ _ _ rfl w.heap.size 9 i1 _ 1 16 Tryz.underlying36 hi1 hy0 hy1 hy2 rfl (by omega) (.slice ra nr rk) nr xs rfl (HRW2.out.alloc _) ⟨w2.heap.size, 0, none⟩ 1 1 [.string (nu wt[j])] rfl rfl (World.news_of_block (cs := #[.string (nu wt[j])]) (t := 9) (fr := (0, 0)) (heap_alloc_new w2 _)) (by simp [Value.oneCell']) (by omega) (by unfold maxLen; omega) (by omega) (by simp; omega) (w2.heap.size + 1) (by simp) ?_
           intro g2 cap2 w4 hown hgrow hat hlt4
           have HOW := Lib.hid hown
           have HGW := Lib.hid hgrow
           have HAT := Lib.hid hat
           clear hown hgrow hat hlt4 r0 r1 hi1 hy0 hy1 hy2)
        | fail)
      have hfr : Tp.fresh n wt[j] = false := hf
      have htk : (wt.take (j + 1)).filter (Tp.fresh n) = (wt.take j).filter (Tp.fresh n) := by
        rw [List.take_succ_eq_append_getElem hlt, List.filter_append]
        simp [hfr]
      have hal4 : Below w2.heap.size w2 (w2.alloc (.cells #[.string (nu wt[j])] 9)) := (Below.refl _ _).alloc (Nat.le_refl _) _
      have hf2 : Fr τ w (w2.alloc (.cells #[.string (nu wt[j])] 9)) := ((HF2.out.then HB2.out).alloc _)
      have hO2 := HO2.out.below HB2.out
      have hbk : ∀ b, τ' b ≠ none → w4.heap[b]? = w2.heap[b]? := fun b hb => by
        have hbl := (hO2.low b hb).2
        refine (HGW.out.block b (Nat.lt_of_lt_of_le hbl hal4.size) (fun e => ?_)).trans (hal4.block b hbl)
        exact hb (HRO.out b e.symm)
      have hg2 : τ' g2 = none := by
        rcases HAT.out with e | e
        · exact HRO.out g2 e
        · exact Classical.byContradiction fun hc => by have := (hO2.low g2 hc).2; omega
      refine ⟨⟨j + 1, by omega, by simp, ⟨τ', acc, cs', tv', D', nr + 1, ?_, ?_, ?_, HG2.out, by omega, ⟨_, HOW.out⟩, fun g hg => by cases hg; exact hg2⟩⟩, by simp only [intOf]; omega⟩
      · rw [htk]; exact HA.out
      · rw [htk]
        exact hO2.same (Nat.le_trans hal4.size HGW.out.size) hbk
      · exact hf2.grown HGW.out (fun g hg => .inr (own_ge HRW.out hg))
    · have HS2 := Lib.hid (show w2.rangeAt wr.heap.size 0 (rcC key wt[j]).toList ∧ w2.cell? ⟨q, 7, none⟩ = some (.slice (some ⟨pg, 0, none⟩) wt.length pk) ∧ w2.cell? ⟨pg, j, none⟩ = some (.int .i64 0) from
        ⟨range_same sr (hF3.block _ hwn hbn), (cell_same (hF3.block q hqw hqn) 7).trans s7, (cell_same (hF3.block pg hpw hpn) j).trans sp⟩)
      have HO3 := Lib.hid hO3
      have HF3 := Lib.hid hF3
      have HG3 := Lib.hid hG3
      clear hO3 hF3 hG3
      go_wp2_with fail
      refine hK.out _ _ ?_ (fun hHeld => ?_)
      · exact HS2.out
      clear hK K2
      try simp only [Act.put, List.setIfInBounds_toArray, List.set_cons_zero, List.set_cons_succ]
      refine wpAnyH_ready (rs := [11]) (by kernel_rfl) (by simp) ?_
      refine AllReadyH.cons (o := _) rfl (fun K2 hK => ?_) AllReadyH.nil
      go_simp
      refine hK.out _ _ ?_ (fun hHeld => ?_)
      · exact HS2.out
      clear hK K2
      try simp only [Act.put, List.setIfInBounds_toArray, List.set_cons_zero, List.set_cons_succ]
      refine wpAnyH_done (by kernel_rfl) ?_ _
      go_wp2
      have hfr : Tp.fresh n wt[j] = true := hf
      have htk : (wt.take (j + 1)).filter (Tp.fresh n) = (wt.take j).filter (Tp.fresh n) ++ [wt[j]] := by
        rw [List.take_succ_eq_append_getElem hlt, List.filter_append]
        simp [hfr]
      refine ⟨⟨j + 1, by omega, by simp, ⟨τ2, acc ++ [(wt[j], u)], cs2, tv2, D2, nr, ?_, ?_, ?_, ?_, ?_, ⟨xs, ?_⟩, ?_⟩⟩, by simp only [intOf]; omega⟩
      · rw [htk, List.map_append, HA.out]; rfl
      · rw [htk, Uk_snoc, ← List.append_assoc, List.length_append]
        exact HO3.out
      · exact (HF2.out.trans HG2.out (Fr.of_below (HXN.out.drew))).trans HG2.out HF3.out
      · exact HG2.out.trans HG3.out (Nat.le_trans HF2.out.size HXN.out.size)
      · have := HNR.out; rw [List.length_append]; simp only [List.length_cons, List.length_nil]; omega
      · exact ownsRow_same (ownsRow_same HRW.out (fun g hg => HXN.out.block g (own_lt HRW.out hg))) (fun g hg => HF3.out.block g (Nat.lt_of_lt_of_le (own_lt HRW.out hg) HXN.out.size) (HRO.out g hg))
      · intro g hg
        refine Classical.byContradiction fun hc => ?_
        rcases HG3.out g hc with d | d
        · exact d (HRO.out g hg)
        · have h1 := own_lt HRW.out hg
          have h2 := HXN.out.size
          have h3 : Wn.heap.size ≤ g := d
          omega
end
end Go.Proofs.YtnnocbelgfhecaaGreatDoor
/- The terminals: Restore online. -/
set_option linter.unusedSimpArgs false
namespace Go.Proofs.YtnnocbelgfhecaaGreatDoor
open Go.ChangeShapes Go.WideShapes Go.ChangeAt Go.RowKit Go.Lott
theorem restoreOn_any {w : World} {q id nx : Nat} {key : Int} {wv pv : Value} (hT : Cel w q (teC q id key nx true wv pv) 73) (p : Nat) (n : Nat) : Calls Tryz.prog 9 #[.pointer (some ⟨q, 0, none⟩), .pointer (some ⟨p, 0, none⟩), .int .i64 n] w (RetS (.tuple #[.slice none 0 0, .int .i64 8]) w) := by
  have q4 : w.cell? ⟨q, 4, none⟩ = some (.bool true) := hT.cell 4
  have ql := hT.lt
  clear hT
  go_enter Tryz.func9, Tryz.ntmps9
  go_wp2
  go_ret2
  exact ⟨rfl, rfl⟩
end Go.Proofs.YtnnocbelgfhecaaGreatDoor
