/- The limits that hold: the program's function. -/
import Derived.Test.YtainelkenkgppaaDoorLmg
namespace Go.Lott.Lm
/-- The three limits. -/
def effV (l : List Cg) (t : Int) : Value := .agg #[.int .i64 (effE l 0 t), .int .i64 (effE l 1 t), .int .i64 (effE l 2 t)]
def EV (z : Nat → Nat → Int) (n : Nat) (t : Int) : Value := if tm t = true then effV (stS (vlL z t n)) t else .agg #[.int .i64 0, .int .i64 0, .int .i64 0]
theorem EV_yes {z : Nat → Nat → Int} {n : Nat} {t : Int} (h : tm t = true) : EV z n t = effV (stS (vlL z t n)) t := if_pos h
theorem EV_no {z : Nat → Nat → Int} {n : Nat} {t : Int} (h : tm t = false) : EV z n t = .agg #[.int .i64 0, .int .i64 0, .int .i64 0] := if_neg (by rw [h]; decide)
theorem stS_length (l : List Cg) : (stS l).length = l.length := (stS_perm l).length_eq
theorem zC_valid {z : Nat → Nat → Int} {t : Int} {n i : Nat} (h : i < (stS (vlL z t n)).length) : 0 ≤ zC (stS (vlL z t n)) i 0 ∧ zC (stS (vlL z t n)) i 0 ≤ 1073741824 := by
  have hm : (stS (vlL z t n))[i] ∈ vlL z t n := (stS_perm _).mem_iff.1 (List.getElem_mem h)
  have hv := vlL_valid hm
  have e : zC (stS (vlL z t n)) i 0 = ((stS (vlL z t n))[i]).1 := by unfold zC; simp [h]
  rw [e]
  unfold vC at hv
  have := of_decide_eq_true hv
  omega
theorem vC_iff {z : Nat → Nat → Int} {t : Int} {i : Nat} : vC t (rw4 z i) = true ↔ tm (z i 0) = true ∧ z i 0 ≤ t ∧ 0 ≤ z i 1 ∧ z i 1 ≤ 1000000000000 ∧ 0 ≤ z i 2 ∧ z i 2 ≤ 1000000000000 ∧ 0 ≤ z i 3 ∧ z i 3 ≤ 1000000000000 := by
  unfold vC tm rw4
  simp only [decide_eq_true_eq]
  omega
end Go.Lott.Lm
namespace Go.Proofs.YtainelkenkgppaaDoor
open Go.ChangeShapes Go.WideShapes Go.ChangeAt Go.RowKit Go.Lott
open Go.Sort Go.Lott.Stb Go.Lott.Srt Go.Lott.Lm
theorem chk_0 {a b c : Int} (h : 0 ≤ a ∧ a ≤ 1000000000000 ∧ 0 ≤ b ∧ b ≤ 1000000000000 ∧ 0 ≤ c ∧ c ≤ 1000000000000) : chk a b c = 0 := by
  unfold chk; rw [if_pos]; simp [amt]; omega
theorem chk_2 {a b c : Int} (h : ¬ (0 ≤ a ∧ a ≤ 1000000000000 ∧ 0 ≤ b ∧ b ≤ 1000000000000 ∧ 0 ≤ c ∧ c ≤ 1000000000000)) : chk a b c = 2 := by
  unfold chk; rw [if_neg]; simp [amt]; omega
theorem eff_list (a : Option Addr) (cap k : Nat) (t : Int) (l : List Cg) (n : Nat) (w : World) (hn : l.length = n) (hk : k < 3) (hlen : n < 1000000000) (hv : ∀ i, i < l.length → 0 ≤ zC l i 0 ∧ zC l i 0 ≤ 1073741824) (hr : IsRows 4 w a n (zC l)) :
    Calls Tryd.prog 38 #[.slice a n cap, .int .i64 k, .int .i64 t] w (RetB (.int .i64 (effE l k t)) w) := by
  subst hn
  have := eff_any a l.length cap (zC l) k t w hk hlen hv hr
  rwa [row4_zC] at this
theorem one_list (a : Option Addr) (cap k : Nat) (t : Int) (l : List Cg) (n : Nat) (w : World) (hn : l.length = n) (hk : k < 3) (hlen : n < 1000000000) (hv : ∀ i, i < l.length → 0 ≤ zC l i 0 ∧ zC l i 0 ≤ 1073741824) (hr : IsRows 4 w a n (zC l)) :
    Calls Tryd.prog 67 #[.slice a n cap, .int .i64 k, .int .i64 t] w (RetB (.int .i64 (effE l k t)) w) := by
  subst hn
  have := one_any a l.length cap (zC l) k t w hk hlen hv hr
  rwa [row4_zC] at this
set_option maxHeartbeats 8000000 in
set_option maxRecDepth 100000 in
theorem Effective_any (a : Option Addr) (len cap : Nat) (z : Nat → Nat → Int) (t : Int) (w : World) (hlen : len < 1000000) (hr : IsRows 4 w a len z) :
    Calls Tryd.prog 14 #[.slice a len cap, .int .i64 t] w (RetB (EV z len t) w) := by
  have HR := Lib.hid hr
  clear hr
  by_cases hd : tm t = true
  · have HV := Lib.hid (EV_yes (z := z) (n := len) hd)
    obtain ⟨e0, he0, hz0, hz1, hz2⟩ := info_parts infoC
    go_enter Tryd.func14, Tryd.ntmps14
    go_wp2_with (go_at_call 29; refine (lT_any _ _).mono ?_; rintro e w' ⟨rfl, rfl⟩)
    go_loopw [5, 14] (fun v5 vi wr => ∃ (i : Nat) (v8 : Value), v8 = v5 ∧ vi = .int .i64 i ∧ i ≤ len ∧ wr.ownsRow (w.heap.size + 1) 30 4 v8 (vlL z t i).length (flC (vlL z t i)) ∧ Below (w.heap.size + 1) (w.alloc (.cells #[.int .i64 0, .int .i64 0, .int .i64 0] 28)) wr) (fun _ vi _ => len - (intOf vi).toNat)
    case atStart => exact ⟨0, _, rfl, rfl, by omega, World.ownsRow_nil _ _ _ _, Below.refl _ _⟩
    case round =>
      obtain ⟨i, v8, rfl, rfl, hi, o8, hbel⟩ := hrel
      have O8 := Lib.hid o8
      have hbs : w.heap.size + 1 ≤ wr.heap.size := by have := hbel.size; simpa using this
      clear o8
      by_cases hlt : i < len
      · rcases HR.out with h0 | ⟨b, o, ha, hb, hm, hcell⟩
        · omega
        · subst ha
          have hbw : Below w.heap.size w wr := ((Below.refl _ _).alloc (Nat.le_refl _) _).trans (hbel.mono (by omega))
          have c0 : wr.cell? ⟨b, o + i * 4, none⟩ = some (.int .i64 (z i 0)) := (hbw.cell (p := ⟨b, _, none⟩) hb).trans (hcell i 0 hlt (by omega))
          have c1 : wr.cell? ⟨b, o + i * 4 + 1, none⟩ = some (.int .i64 (z i 1)) := (hbw.cell (p := ⟨b, _, none⟩) hb).trans (hcell i 1 hlt (by omega))
          have c2 : wr.cell? ⟨b, o + i * 4 + 2, none⟩ = some (.int .i64 (z i 2)) := (hbw.cell (p := ⟨b, _, none⟩) hb).trans (hcell i 2 hlt (by omega))
          have c3 : wr.cell? ⟨b, o + i * 4 + 3, none⟩ = some (.int .i64 (z i 3)) := (hbw.cell (p := ⟨b, _, none⟩) hb).trans (hcell i 3 hlt (by omega))
          clear hcell hbw
          have hkl := vlL_length z t i
          have hkb : ((vlL z t i).length + 1) * 32 ≤ 140737488355328 := by omega
          have hkm : (vlL z t i).length + 1 ≤ maxLen := by unfold maxLen; omega
          cases ht : tm (z i 0) with
          | false =>
            have HN := Lib.hid (vlL_no (z := z) (t := t) (n := i) (by rw [Bool.eq_false_iff]; intro c; have := (vC_iff.1 c).1; rw [ht] at this; cases this))
            go_wp2_with (go_at_call 29; refine (lT_any _ _).mono ?_; rintro e w' ⟨rfl, rfl⟩)
            go_roundw
            case rel => exact ⟨i + 1, _, rfl, by go_num, hlt, by rw [HN.out]; exact O8.out.alloc _, hbel.alloc (by omega) _⟩
            case measure => simp [intOf]; omega
          | true =>
            by_cases hat : z i 0 ≤ t
            · by_cases hc : 0 ≤ z i 1 ∧ z i 1 ≤ 1000000000000 ∧ 0 ≤ z i 2 ∧ z i 2 ≤ 1000000000000 ∧ 0 ≤ z i 3 ∧ z i 3 ≤ 1000000000000
              · have HN := Lib.hid (vlL_yes (z := z) (t := t) (n := i) (vC_iff.2 ⟨ht, hat, hc⟩))
                have k0 := chk_0 hc
                clear hc
                go_wp2_with (first | (go_at_call 29; refine (lT_any _ _).mono ?_; rintro e w' ⟨rfl, rfl⟩) | (go_at_call 34; refine (check_any _ _ _ _).mono ?_; rintro e w1 ⟨rfl, hb1⟩; have HB1 := Lib.hid ((hbel.alloc hbs (.cells #[.int .i64 (z i 0), .int .i64 (z i 1), .int .i64 (z i 2), .int .i64 (z i 3)] 30)).trans (hb1.mono (by simp; omega))); have O1 := Lib.hid (owns_below (O8.out.alloc (.cells #[.int .i64 (z i 0), .int .i64 (z i 1), .int .i64 (z i 2), .int .i64 (z i 3)] 30)) hb1); have C1 := (Cel.new wr #[.int .i64 (z i 0), .int .i64 (z i 1), .int .i64 (z i 2), .int .i64 (z i 3)] 30).below hb1 (by simp); have d0 := C1.cell 0; have d1 := C1.cell 1; have d2 := C1.cell 2; have d3 := C1.cell 3; simp at d0 d1 d2 d3; have hs1 : w.heap.size + 1 ≤ w1.heap.size := by { have := HB1.out.size; simpa using this }; clear C1 hb1) | (at_builtin; refine wpList_append_lies _ rfl _ _ 23 rfl (w.heap.size + 1) 30 e0 (.agg #[.int .i64 0, .int .i64 0, .int .i64 0, .int .i64 0]) 4 32 Tryd.underlying23 he0 hz0 hz1 hz2 rfl (by decide) v8 (vlL z t i).length (flC (vlL z t i)) (by rfl) (O1.out.alloc _) ⟨w1.heap.size, 0, none⟩ 1 1 [.int .i64 (z i 0), .int .i64 (z i 1), .int .i64 (z i 2), .int .i64 (z i 3)] (by rfl) (by rfl) (World.news_of_block (cs := #[.int .i64 (z i 0), .int .i64 (z i 1), .int .i64 (z i 2), .int .i64 (z i 3)]) (t := 30) (fr := (0, 0)) (heap_alloc_new w1 _)) (by simp [Value.oneCell']) (by omega) hkm hkb (by simp; omega) (w1.heap.size + 1) (by simp) ?_; intro g8 c8 w3 own8 gr8 at8 lt8; have HB3 := Lib.hid ((HB1.out.alloc hs1 (.cells #[.int .i64 (z i 0), .int .i64 (z i 1), .int .i64 (z i 2), .int .i64 (z i 3)] 30)).grown gr8 (by simp; omega) (own_ge O1.out)); have H8 := Lib.hid own8; clear own8 gr8 at8 lt8))
                go_roundw
                case rel => exact ⟨i + 1, _, rfl, by go_num, hlt, by rw [HN.out, List.length_append, flC_snoc]; exact H8.out, HB3.out⟩
                case measure => simp [intOf]; omega
              · have HN := Lib.hid (vlL_no (z := z) (t := t) (n := i) (by rw [Bool.eq_false_iff]; intro c; exact hc (vC_iff.1 c).2.2))
                have k0 := chk_2 hc
                clear hc
                go_wp2_with (first | (go_at_call 29; refine (lT_any _ _).mono ?_; rintro e w' ⟨rfl, rfl⟩) | (go_at_call 34; refine (check_any _ _ _ _).mono ?_; rintro e w1 ⟨rfl, hb1⟩; have HB1 := Lib.hid ((hbel.alloc hbs (.cells #[.int .i64 (z i 0), .int .i64 (z i 1), .int .i64 (z i 2), .int .i64 (z i 3)] 30)).trans (hb1.mono (by simp; omega))); have O1 := Lib.hid (owns_below (O8.out.alloc (.cells #[.int .i64 (z i 0), .int .i64 (z i 1), .int .i64 (z i 2), .int .i64 (z i 3)] 30)) hb1); have C1 := (Cel.new wr #[.int .i64 (z i 0), .int .i64 (z i 1), .int .i64 (z i 2), .int .i64 (z i 3)] 30).below hb1 (by simp); have d0 := C1.cell 0; have d1 := C1.cell 1; have d2 := C1.cell 2; have d3 := C1.cell 3; simp at d0 d1 d2 d3; have hs1 : w.heap.size + 1 ≤ w1.heap.size := by { have := HB1.out.size; simpa using this }; clear C1 hb1))
                go_roundw
                case rel => exact ⟨i + 1, _, rfl, by go_num, hlt, by rw [HN.out]; exact O1.out, HB1.out⟩
                case measure => simp [intOf]; omega
            · have HN := Lib.hid (vlL_no (z := z) (t := t) (n := i) (by rw [Bool.eq_false_iff]; intro c; exact hat (vC_iff.1 c).2.1))
              have hat' : t < z i 0 := by omega
              clear hat
              go_wp2_with (go_at_call 29; refine (lT_any _ _).mono ?_; rintro e w' ⟨rfl, rfl⟩)
              go_roundw
              case rel => exact ⟨i + 1, _, rfl, by go_num, hlt, by rw [HN.out]; exact O8.out.alloc _, hbel.alloc (by omega) _⟩
              case measure => simp [intOf]; omega
      · obtain rfl : i = len := by omega
        have hkl := vlL_length z t i
        have HLN := Lib.hid (stS_length (vlL z t i))
        rcases O8.out.2 with ⟨hv8, h0⟩ | ⟨g, cp, cur, hv8, hg, _⟩
        · subst hv8
          rw [h0] at HLN
          have hbel' := hbel
          clear O8
          go_wp2_with (go_at_call 35; refine (SStab_none _).mono ?_; rintro e w1 ⟨rfl, rfl⟩)
          have HR1 : IsRows 4 wr none 0 (zC (stS (vlL z t i))) := .inl rfl
          have e0 : ∀ W, IsRows 4 W none 0 (zC (stS (vlL z t i))) → Calls Tryd.prog 38 #[.slice none 0 0, .int .i64 0, .int .i64 t] W (RetB (.int .i64 (effE (stS (vlL z t i)) 0 t)) W) := fun W hr => eff_list none 0 0 t _ 0 W HLN.out (by omega) (by omega) (fun j hj => zC_valid hj) hr
          have e1 : ∀ W, IsRows 4 W none 0 (zC (stS (vlL z t i))) → Calls Tryd.prog 38 #[.slice none 0 0, .int .i64 1, .int .i64 t] W (RetB (.int .i64 (effE (stS (vlL z t i)) 1 t)) W) := fun W hr => eff_list none 0 1 t _ 0 W HLN.out (by omega) (by omega) (fun j hj => zC_valid hj) hr
          have e2 : ∀ W, IsRows 4 W none 0 (zC (stS (vlL z t i))) → Calls Tryd.prog 38 #[.slice none 0 0, .int .i64 2, .int .i64 t] W (RetB (.int .i64 (effE (stS (vlL z t i)) 2 t)) W) := fun W hr => eff_list none 0 2 t _ 0 W HLN.out (by omega) (by omega) (fun j hj => zC_valid hj) hr
          refine (e0 _ HR1).mono ?_
          rintro e w2 ⟨rfl, hb2⟩
          go_wp2_with fail
          refine (e1 _ ((HR1).below hb2 (Nat.le_refl _))).mono ?_
          rintro e w3 ⟨rfl, hb3⟩
          have hc3 := hb2.trans (hb3.mono hb2.size)
          go_wp2_with fail
          refine (e2 _ ((HR1).below hc3 (Nat.le_refl _))).mono ?_
          rintro e w4 ⟨rfl, hb4⟩
          have hc4 := hc3.trans (hb4.mono hc3.size)
          have hz1 : w.heap.size + 1 ≤ (wr).heap.size := by have := (hbel').size; simpa using this
          have HB4 := (hbel').trans (hc4.mono hz1)
          have C4 := (Cel.new w #[.int .i64 0, .int .i64 0, .int .i64 0] 28).below HB4 (Nat.lt_succ_self _)
          have l0 := C4.cell 0
          have l1 := C4.cell 1
          have l2 := C4.cell 2
          have f0 := C4.free 0
          have f1 := C4.free 1
          have f2 := C4.free 2
          simp at l0 l1 l2
          have HBX := Lib.hid (((Below.refl _ _).alloc (Nat.le_refl _) _).trans (HB4.mono (Nat.le_succ _)))
          clear e0 e1 e2 hb2 hb3 hc3 hb4 hc4 HB4 C4
          go_wp2
          refine bodyPost_ret (v := effV (stS (vlL z t i)) t) (by simp [results, Tryd.results14, go_sem, l0, l1, l2, effV]) rfl ⟨congrArg _ HV.out.symm, ?_⟩
          exact ((HBX.out.setCell (Nat.le_refl _) _).setCell (Nat.le_refl _) _).setCell (Nat.le_refl _) _
        · subst hv8
          obtain ⟨hH, hgl, hgb⟩ := holds_of_owns rfl O8.out
          have HC := Lib.hid (SStab_any (cap := cp) (n := (vlL z t i).length) (SWR.start hH hgl) (by simp) (by omega))
          clear hH
          go_wp2_with (go_at_call 35; refine HC.out.mono ?_; rintro e w1 ⟨rfl, d1, hs1, z1, r1⟩)
          have hml := merged_stS (d := (vlL z t i).toArray) (d' := d1) (by simpa using r1)
          have HR1 := rows_of_holds hs1.row hs1.blk_lt (by rw [z1]; unfold maxLen; omega)
          rw [z1, hml] at HR1
          have hb1 := hbel.trans (hs1.bel hgb)
          have e0 : ∀ W, IsRows 4 W (some ⟨g, 0, none⟩) (vlL z t i).length (zC (stS (vlL z t i))) → Calls Tryd.prog 38 #[.slice (some ⟨g, 0, none⟩) (vlL z t i).length cp, .int .i64 0, .int .i64 t] W (RetB (.int .i64 (effE (stS (vlL z t i)) 0 t)) W) := fun W hr => eff_list (some ⟨g, 0, none⟩) cp 0 t _ (vlL z t i).length W HLN.out (by omega) (by omega) (fun j hj => zC_valid hj) hr
          have e1 : ∀ W, IsRows 4 W (some ⟨g, 0, none⟩) (vlL z t i).length (zC (stS (vlL z t i))) → Calls Tryd.prog 38 #[.slice (some ⟨g, 0, none⟩) (vlL z t i).length cp, .int .i64 1, .int .i64 t] W (RetB (.int .i64 (effE (stS (vlL z t i)) 1 t)) W) := fun W hr => eff_list (some ⟨g, 0, none⟩) cp 1 t _ (vlL z t i).length W HLN.out (by omega) (by omega) (fun j hj => zC_valid hj) hr
          have e2 : ∀ W, IsRows 4 W (some ⟨g, 0, none⟩) (vlL z t i).length (zC (stS (vlL z t i))) → Calls Tryd.prog 38 #[.slice (some ⟨g, 0, none⟩) (vlL z t i).length cp, .int .i64 2, .int .i64 t] W (RetB (.int .i64 (effE (stS (vlL z t i)) 2 t)) W) := fun W hr => eff_list (some ⟨g, 0, none⟩) cp 2 t _ (vlL z t i).length W HLN.out (by omega) (by omega) (fun j hj => zC_valid hj) hr
          refine (e0 _ HR1).mono ?_
          rintro e w2 ⟨rfl, hb2⟩
          go_wp2_with fail
          refine (e1 _ ((HR1).below hb2 (Nat.le_refl _))).mono ?_
          rintro e w3 ⟨rfl, hb3⟩
          have hc3 := hb2.trans (hb3.mono hb2.size)
          go_wp2_with fail
          refine (e2 _ ((HR1).below hc3 (Nat.le_refl _))).mono ?_
          rintro e w4 ⟨rfl, hb4⟩
          have hc4 := hc3.trans (hb4.mono hc3.size)
          have hz1 : w.heap.size + 1 ≤ (w1).heap.size := by have := (hb1).size; simpa using this
          have HB4 := (hb1).trans (hc4.mono hz1)
          have C4 := (Cel.new w #[.int .i64 0, .int .i64 0, .int .i64 0] 28).below HB4 (Nat.lt_succ_self _)
          have l0 := C4.cell 0
          have l1 := C4.cell 1
          have l2 := C4.cell 2
          have f0 := C4.free 0
          have f1 := C4.free 1
          have f2 := C4.free 2
          simp at l0 l1 l2
          have HBX := Lib.hid (((Below.refl _ _).alloc (Nat.le_refl _) _).trans (HB4.mono (Nat.le_succ _)))
          clear e0 e1 e2 hb2 hb3 hc3 hb4 hc4 HB4 C4
          go_wp2
          refine bodyPost_ret (v := effV (stS (vlL z t i)) t) (by simp [results, Tryd.results14, go_sem, l0, l1, l2, effV]) rfl ⟨congrArg _ HV.out.symm, ?_⟩
          exact ((HBX.out.setCell (Nat.le_refl _) _).setCell (Nat.le_refl _) _).setCell (Nat.le_refl _) _
  · have hd' : tm t = false := by simpa using hd
    have HV := Lib.hid (EV_no (z := z) (n := len) hd')
    clear hd
    go_enter Tryd.func14, Tryd.ntmps14
    go_wp2_with (go_at_call 29; refine (lT_any _ _).mono ?_; rintro e w' ⟨rfl, rfl⟩)
    refine bodyPost_ret (v := .agg #[.int .i64 0, .int .i64 0, .int .i64 0]) (by simp [results, Tryd.results14, go_sem]) rfl ⟨congrArg _ HV.out.symm, ?_⟩
    exact (Below.refl _ _).alloc (Nat.le_refl _) _
end Go.Proofs.YtainelkenkgppaaDoor
