/- The limits that hold: the reference's functions, walked. -/
import Derived.Test.YtainelkenkgppaaDoorLmi
namespace Go.Proofs.YtainelkenkgppaaDoor
open Go.ChangeShapes Go.WideShapes Go.ChangeAt Go.RowKit Go.Lott
open Go.Sort Go.Lott.Stb Go.Lott.Srt Go.Lott.Lm
theorem stS_vl_yes {z : Nat → Nat → Int} {t : Int} {n : Nat} (h : vC t (rw4 z n) = true) : stS (vlL z t (n + 1)) = insS (rw4 z n) (stS (vlL z t n)) := by rw [vlL_yes h, stS_snoc]
theorem stS_vl_no {z : Nat → Nat → Int} {t : Int} {n : Nat} (h : vC t (rw4 z n) = false) : stS (vlL z t (n + 1)) = stS (vlL z t n) := by rw [vlL_no h]
def SoPost (l : List Cg) (w : World) (e : Ending) (w' : World) : Prop := ∃ (a' : Option Addr) (cap' : Nat), e = .returned (.slice a' l.length cap') ∧ Below w.heap.size w w' ∧ IsRows 4 w' a' l.length (zC l)
set_option maxHeartbeats 8000000 in
set_option maxRecDepth 100000 in
theorem sorted_any (a : Option Addr) (len cap : Nat) (z : Nat → Nat → Int) (t : Int) (w : World) (hlen : len < 1000000) (hr : IsRows 4 w a len z) :
    Calls Tryd.prog 66 #[.slice a len cap, .int .i64 t] w (SoPost (stS (vlL z t len)) w) := by
  have HR := Lib.hid hr
  clear hr
  obtain ⟨e0, he0, hz0, hz1, hz2⟩ := info_parts infoC
  go_enter Tryd.func66, Tryd.ntmps66
  go_wp2
  go_loopw [5, 6] (fun v5 vi wr => ∃ (i : Nat) (v8 : Value), v8 = v5 ∧ vi = .int .i64 i ∧ i ≤ len ∧ wr.ownsRow w.heap.size 30 4 v8 (stS (vlL z t i)).length (flC (stS (vlL z t i))) ∧ Below w.heap.size w wr) (fun _ vi _ => len - (intOf vi).toNat)
  case atStart => exact ⟨0, _, rfl, rfl, by omega, World.ownsRow_nil _ _ _ _, Below.refl _ _⟩
  case round =>
    obtain ⟨i, v8, rfl, rfl, hi, o8, hbel⟩ := hrel
    have O8 := Lib.hid o8
    have hbs : w.heap.size ≤ wr.heap.size := hbel.size
    clear o8
    by_cases hlt : i < len
    · rcases HR.out with h0 | ⟨b, o, ha, hb, hm, hcell⟩
      · omega
      · subst ha
        have c0 : wr.cell? ⟨b, o + i * 4, none⟩ = some (.int .i64 (z i 0)) := (hbel.cell (p := ⟨b, _, none⟩) hb).trans (hcell i 0 hlt (by omega))
        have c1 : wr.cell? ⟨b, o + i * 4 + 1, none⟩ = some (.int .i64 (z i 1)) := (hbel.cell (p := ⟨b, _, none⟩) hb).trans (hcell i 1 hlt (by omega))
        have c2 : wr.cell? ⟨b, o + i * 4 + 2, none⟩ = some (.int .i64 (z i 2)) := (hbel.cell (p := ⟨b, _, none⟩) hb).trans (hcell i 2 hlt (by omega))
        have c3 : wr.cell? ⟨b, o + i * 4 + 3, none⟩ = some (.int .i64 (z i 3)) := (hbel.cell (p := ⟨b, _, none⟩) hb).trans (hcell i 3 hlt (by omega))
        have c2' : wr.cell? ⟨b, o + i * 4 + 1 + 1, none⟩ = some (.int .i64 (z i 2)) := c2
        have c3' : wr.cell? ⟨b, o + i * 4 + 1 + 2, none⟩ = some (.int .i64 (z i 3)) := c3
        clear hcell
        have hkl : (stS (vlL z t i)).length ≤ i := by rw [stS_length]; exact vlL_length z t i
        have hkb : ((stS (vlL z t i)).length + 1) * 32 ≤ 140737488355328 := by omega
        have hkm : (stS (vlL z t i)).length + 1 ≤ maxLen := by unfold maxLen; omega
        cases ht : tm (z i 0) with
        | false =>
          have HN := Lib.hid (stS_vl_no (z := z) (t := t) (n := i) (by rw [Bool.eq_false_iff]; intro c; have := (vC_iff.1 c).1; rw [ht] at this; cases this))
          go_wp2_with (go_at_call 39; refine (rT_any _ _).mono ?_; rintro e w' ⟨rfl, rfl⟩)
          go_roundw
          case rel => exact ⟨i + 1, _, rfl, by go_num, hlt, by rw [HN.out]; exact O8.out, hbel⟩
          case measure => simp [intOf]; omega
        | true =>
          by_cases hat : z i 0 ≤ t
          · by_cases hc : 0 ≤ z i 1 ∧ z i 1 ≤ 1000000000000 ∧ 0 ≤ z i 2 ∧ z i 2 ≤ 1000000000000 ∧ 0 ≤ z i 3 ∧ z i 3 ≤ 1000000000000
            · have HN := Lib.hid (stS_vl_yes (z := z) (t := t) (n := i) (vC_iff.2 ⟨ht, hat, hc⟩))
              have k0 := chk_0 hc
              clear hc
              go_wp2_with (first | (go_at_call 39; refine (rT_any _ _).mono ?_; rintro e w' ⟨rfl, rfl⟩) | (go_at_call 76; refine (refCheck_any _ _ _ _).mono ?_; rintro e w1 ⟨rfl, hb1⟩; have HB1 := Lib.hid (hbel.trans (hb1.mono hbel.size)); have O1 := Lib.hid (owns_below O8.out hb1); have d0 := (hb1.cell (p := ⟨b, o + i * 4, none⟩) (Nat.lt_of_lt_of_le hb hbs)).trans c0; have d1 := (hb1.cell (p := ⟨b, o + i * 4 + 1, none⟩) (Nat.lt_of_lt_of_le hb hbs)).trans c1; have d2 := (hb1.cell (p := ⟨b, o + i * 4 + 2, none⟩) (Nat.lt_of_lt_of_le hb hbs)).trans c2; have d3 := (hb1.cell (p := ⟨b, o + i * 4 + 3, none⟩) (Nat.lt_of_lt_of_le hb hbs)).trans c3; have hs1 := HB1.out.size; clear hb1) | (at_builtin; refine wpList_append_lies _ rfl _ _ 23 rfl w.heap.size 30 e0 (.agg #[.int .i64 0, .int .i64 0, .int .i64 0, .int .i64 0]) 4 32 Tryd.underlying23 he0 hz0 hz1 hz2 rfl (by decide) v8 (stS (vlL z t i)).length (flC (stS (vlL z t i))) (by rfl) (O1.out.alloc _) ⟨w1.heap.size, 0, none⟩ 1 1 [.int .i64 (z i 0), .int .i64 (z i 1), .int .i64 (z i 2), .int .i64 (z i 3)] (by rfl) (by rfl) (World.news_of_block (cs := #[.int .i64 (z i 0), .int .i64 (z i 1), .int .i64 (z i 2), .int .i64 (z i 3)]) (t := 30) (fr := (0, 0)) (heap_alloc_new w1 _)) (by simp [Value.oneCell']) (by omega) hkm hkb (by simp; omega) (w1.heap.size + 1) (by simp) ?_; intro g8 c8 w3 own8 gr8 at8 lt8; have HB3 := Lib.hid ((HB1.out.alloc hs1 (.cells #[.int .i64 (z i 0), .int .i64 (z i 1), .int .i64 (z i 2), .int .i64 (z i 3)] 30)).grown gr8 (by simp; omega) (own_ge O1.out)); have HF8 := Lib.hid (rowF_of_owns own8); have H8 := Lib.hid (holds_of_owns (l := stS (vlL z t i) ++ [rw4 z i]) (show (stS (vlL z t i)).length + 1 = (stS (vlL z t i) ++ [rw4 z i]).length by simp) (by rw [flC_snoc]; exact own8)); clear own8 gr8 at8 lt8))
              go_loopw [7] (fun vk wk => ∃ (k : Nat) (dk : Array Cg), vk = .int .i64 k ∧ k ≤ (stS (vlL z t i)).length ∧ SWR encC 4 w3 g8 dk wk ∧ RowF wk g8 c8 30 ∧ Way (stS (vlL z t i)) (rw4 z i) k dk) (fun vk _ => (intOf vk).toNat)
              case atStart => exact ⟨(stS (vlL z t i)).length, _, by go_num, Nat.le_refl _, SWR.start H8.out.1 H8.out.2.1, HF8.out.1, Way.start _ _⟩
              case round =>
                obtain ⟨k, dk, rfl, hk, hS, hF, hW⟩ := hrel
                have HS := Lib.hid hS
                have HF := Lib.hid hF
                have HW := Lib.hid hW
                have hsz := hW.size.1
                clear hS hF hW
                have hkn : k < dk.size := by omega
                have HLS := Lib.hid hkl
                have HZ := Lib.hid hsz
                obtain ⟨m, hm⟩ : ∃ m, (stS (vlL z t i)).length + 1 = m := ⟨_, rfl⟩
                have HM := Lib.hid hm
                have km : k < m := by omega
                by_cases hk0 : 0 < k
                · obtain ⟨q, hq⟩ : ∃ q : Nat, k = q + 1 := ⟨k - 1, by omega⟩
                  have eq : (k : Int) - 1 = (q : Int) := by omega
                  have p0 : (0 : Int) < (k : Int) := by omega
                  have p1 : (0 : Int) ≤ (k : Int) := by omega
                  have p2 : (k : Int) < (((stS (vlL z t i)).length : Int) + 1) := by omega
                  have p3 : k < (stS (vlL z t i)).length + 1 := by omega
                  have q1 : (0 : Int) ≤ (q : Int) := by omega
                  have q2 : (q : Int) < (((stS (vlL z t i)).length : Int) + 1) := by omega
                  have q3 : q < (stS (vlL z t i)).length + 1 := by omega
                  have b0 : decide (0 < k) = true := decide_eq_true hk0
                  have hqd : q < dk.size := by omega
                  have hqk : q < k := by omega
                  have wq : IntKind.i64.wrap (q : Int) = (q : Int) := IntWalk.i64_in _ (by omega)
                  have HQE := Lib.hid hq
                  obtain ⟨pc0, pc1, pc2, pc3, pf0, pf1, pf2, pf3⟩ := cel4 HS.out hkn
                  obtain ⟨qc0, qc1, qc2, qc3, qf0, qf1, qf2, qf3⟩ := cel4 HS.out hqd
                  have HSW := Lib.hid (swap0 HS.out k q hkn hqd)
                  have hgk := HS.out.blk_lt
                  have HKN := Lib.hid hkn
                  have HQD := Lib.hid hqd
                  have hx : dk[k]! = rw4 z i := HW.out.at
                  have HX := Lib.hid hx
                  clear hq hm hsz hkn hqd hx
                  by_cases hlt2 : (dk[k]!).1 < (dk[q]!).1
                  · have HNX := Lib.hid (show Way (stS (vlL z t i)) (rw4 z i) q (swp dk k q) by
                      have h1 := HW.out; have h2 := hlt2; rw [HX.out] at h2; have h3 := HQE.out; subst h3; exact h1.next h2)
                    have HR1 := Lib.hid (RowF.setCells (encC dk[k]!) (q * 4) _ (RowF.setCells (encC dk[q]!) (k * 4) _ HF.out))
                    go_wp2
                    go_region
                    go_wp2
                    go_roundw
                    case rel => exact ⟨q, swp dk k q, rfl, by omega, (by first | exact (HSW.out.below ((Below.refl _ _).alloc (Nat.le_refl _) _)).drew | exact HSW.out.drew.below ((Below.refl _ _).alloc (Nat.le_refl _) _)), (by first | exact (HR1.out.below ((Below.refl _ _).alloc (Nat.le_refl _) _)).drew | exact HR1.out.drew.below ((Below.refl _ _).alloc (Nat.le_refl _) _)), HNX.out⟩
                    case measure => simp [intOf]; omega
                  · have hle2 : (dk[q]!).1 ≤ (dk[k]!).1 := by omega
                    have HTS := Lib.hid (HW.out.stop (stS_up _) (fun q' h => by have := HQE.out; obtain rfl : q = q' := (by omega); rw [← HX.out]; exact hle2))
                    clear hlt2
                    have HO := Lib.hid (owns_of_holds (base := w.heap.size) HF.out HS.out.row H8.out.2.2 HZ.out HF8.out.2.1 HF8.out.2.2)
                    have HLZ := Lib.hid (show dk.toList.length = (stS (vlL z t i)).length + 1 by rw [Array.length_toList]; exact HZ.out)
                    have HBZ := Lib.hid (HB3.out.trans (HS.out.bel (B := w.heap.size) H8.out.2.2))
                    go_wp2
                    go_region
                    go_wp2
                    go_roundw
                    case rel => exact ⟨i + 1, _, rfl, by go_num, hlt, by rw [HN.out, ← HTS.out, HLZ.out]; exact HO.out.drew, HBZ.out.drew⟩
                    case measure => simp [intOf]; omega
                · obtain rfl : k = 0 := by omega
                  have HTS := Lib.hid (HW.out.stop (stS_up _) (fun q' h => by omega))
                  clear hsz hkn hm
                  have HO := Lib.hid (owns_of_holds (base := w.heap.size) HF.out HS.out.row H8.out.2.2 HZ.out HF8.out.2.1 HF8.out.2.2)
                  have HLZ := Lib.hid (show dk.toList.length = (stS (vlL z t i)).length + 1 by rw [Array.length_toList]; exact HZ.out)
                  have HBZ := Lib.hid (HB3.out.trans (HS.out.bel (B := w.heap.size) H8.out.2.2))
                  go_wp2
                  go_region
                  go_wp2
                  go_roundw
                  case rel => exact ⟨i + 1, _, rfl, by go_num, hlt, by rw [HN.out, ← HTS.out, HLZ.out]; exact HO.out.drew, HBZ.out.drew⟩
                  case measure => simp [intOf]; omega
            · have HN := Lib.hid (stS_vl_no (z := z) (t := t) (n := i) (by rw [Bool.eq_false_iff]; intro c; exact hc (vC_iff.1 c).2.2))
              have k0 := chk_2 hc
              clear hc
              go_wp2_with (first | (go_at_call 39; refine (rT_any _ _).mono ?_; rintro e w' ⟨rfl, rfl⟩) | (go_at_call 76; refine (refCheck_any _ _ _ _).mono ?_; rintro e w1 ⟨rfl, hb1⟩; have HB1 := Lib.hid (hbel.trans (hb1.mono hbel.size)); have O1 := Lib.hid (owns_below O8.out hb1); have d0 := (hb1.cell (p := ⟨b, o + i * 4, none⟩) (Nat.lt_of_lt_of_le hb hbs)).trans c0; have d1 := (hb1.cell (p := ⟨b, o + i * 4 + 1, none⟩) (Nat.lt_of_lt_of_le hb hbs)).trans c1; have d2 := (hb1.cell (p := ⟨b, o + i * 4 + 2, none⟩) (Nat.lt_of_lt_of_le hb hbs)).trans c2; have d3 := (hb1.cell (p := ⟨b, o + i * 4 + 3, none⟩) (Nat.lt_of_lt_of_le hb hbs)).trans c3; have hs1 := HB1.out.size; clear hb1))
              go_roundw
              case rel => exact ⟨i + 1, _, rfl, by go_num, hlt, by rw [HN.out]; exact O1.out, HB1.out⟩
              case measure => simp [intOf]; omega
          · have HN := Lib.hid (stS_vl_no (z := z) (t := t) (n := i) (by rw [Bool.eq_false_iff]; intro c; exact hat (vC_iff.1 c).2.1))
            have hat' : t < z i 0 := by omega
            clear hat
            go_wp2_with (go_at_call 39; refine (rT_any _ _).mono ?_; rintro e w' ⟨rfl, rfl⟩)
            go_roundw
            case rel => exact ⟨i + 1, _, rfl, by go_num, hlt, by rw [HN.out]; exact O8.out, hbel⟩
            case measure => simp [intOf]; omega
    · obtain rfl : i = len := by omega
      have hkl : (stS (vlL z t i)).length ≤ i := by rw [stS_length]; exact vlL_length z t i
      rcases O8.out.2 with ⟨hv8, h0⟩ | ⟨g, cp, cur, hv8, hg, _⟩
      · subst hv8
        go_wp2
        refine bodyPost_ret (v := .slice none 0 0) (by simp [results, Tryd.results66, go_sem]) rfl ?_
        exact ⟨none, 0, by rw [h0], hbel, .inl h0⟩
      · subst hv8
        obtain ⟨hH, hgl, hgb⟩ := holds_of_owns rfl O8.out
        have HX := Lib.hid (rows_of_holds hH hgl (by simp; unfold maxLen; omega))
        clear hH
        go_wp2
        refine bodyPost_ret (v := .slice (some ⟨g, 0, none⟩) (stS (vlL z t i)).length cp) (by simp [results, Tryd.results66, go_sem]) rfl ?_
        exact ⟨some ⟨g, 0, none⟩, cp, rfl, hbel, by have := HX.out; simpa using this⟩
set_option maxHeartbeats 4000000 in
set_option maxRecDepth 100000 in
theorem rEffective_any (a : Option Addr) (len cap : Nat) (z : Nat → Nat → Int) (t : Int) (w : World) (hlen : len < 1000000) (hr : IsRows 4 w a len z) :
    Calls Tryd.prog 40 #[.slice a len cap, .int .i64 t] w (RetB (EV z len t) w) := by
  have hkl : (stS (vlL z t len)).length ≤ len := by rw [stS_length]; exact vlL_length z t len
  by_cases hd : tm t = true
  · have HV := Lib.hid (EV_yes (z := z) (n := len) hd)
    have HSO := Lib.hid (sorted_any a len cap z t (w.alloc (.cells #[.int .i64 0, .int .i64 0, .int .i64 0] 28)) hlen (hr.below ((Below.refl _ _).alloc (Nat.le_refl _) _) (Nat.le_refl _)))
    clear hr
    go_enter Tryd.func40, Tryd.ntmps40
    go_wp2_with (first | (go_at_call 39; refine (rT_any _ _).mono ?_; rintro e w' ⟨rfl, rfl⟩) | (go_at_call 66; refine HSO.out.mono ?_; rintro e w1 ⟨a1, c1, rfl, hb1, hr1⟩; replace hb1 : Below (w.heap.size + 1) _ w1 := hb1.mono (by simp)))
    have e0 : ∀ W, IsRows 4 W a1 (stS (vlL z t len)).length (zC (stS (vlL z t len))) → Calls Tryd.prog 67 #[.slice a1 (stS (vlL z t len)).length c1, .int .i64 0, .int .i64 t] W (RetB (.int .i64 (effE (stS (vlL z t len)) 0 t)) W) := fun W hr => one_list a1 c1 0 t _ (stS (vlL z t len)).length W rfl (by omega) (by omega) (fun j hj => zC_valid hj) hr
    have e1 : ∀ W, IsRows 4 W a1 (stS (vlL z t len)).length (zC (stS (vlL z t len))) → Calls Tryd.prog 67 #[.slice a1 (stS (vlL z t len)).length c1, .int .i64 1, .int .i64 t] W (RetB (.int .i64 (effE (stS (vlL z t len)) 1 t)) W) := fun W hr => one_list a1 c1 1 t _ (stS (vlL z t len)).length W rfl (by omega) (by omega) (fun j hj => zC_valid hj) hr
    have e2 : ∀ W, IsRows 4 W a1 (stS (vlL z t len)).length (zC (stS (vlL z t len))) → Calls Tryd.prog 67 #[.slice a1 (stS (vlL z t len)).length c1, .int .i64 2, .int .i64 t] W (RetB (.int .i64 (effE (stS (vlL z t len)) 2 t)) W) := fun W hr => one_list a1 c1 2 t _ (stS (vlL z t len)).length W rfl (by omega) (by omega) (fun j hj => zC_valid hj) hr
    refine (e0 _ hr1).mono ?_
    rintro e w2 ⟨rfl, hb2⟩
    go_wp2_with fail
    refine (e1 _ ((hr1).below hb2 (Nat.le_refl _))).mono ?_
    rintro e w3 ⟨rfl, hb3⟩
    have hc3 := hb2.trans (hb3.mono hb2.size)
    go_wp2_with fail
    refine (e2 _ ((hr1).below hc3 (Nat.le_refl _))).mono ?_
    rintro e w4 ⟨rfl, hb4⟩
    have hc4 := hc3.trans (hb4.mono hc3.size)
    have hz1 : w.heap.size + 1 ≤ (w1).heap.size := by have := (hb1).size; simpa using this
    have HB4 := (hb1).trans (hc4.mono hz1)
    have C4 := (Cel.new w #[.int .i64 0, .int .i64 0, .int .i64 0] 28).below HB4 (Nat.lt_succ_self _)
    have l0 := C4.cell 0
    have l1 := C4.cell 1
    have l2 := C4.cell 2
    have f0 := C4.free 0
    have f1 := C4.free 1
    have f2 := C4.free 2
    simp at l0 l1 l2
    have HBX := Lib.hid (((Below.refl _ _).alloc (Nat.le_refl _) _).trans (HB4.mono (Nat.le_succ _)))
    clear e0 e1 e2 hb2 hb3 hc3 hb4 hc4 HB4 C4
    go_wp2
    refine bodyPost_ret (v := effV (stS (vlL z t len)) t) (by simp [results, Tryd.results40, go_sem, l0, l1, l2, effV]) rfl ⟨congrArg _ HV.out.symm, ?_⟩
    exact ((HBX.out.setCell (Nat.le_refl _) _).setCell (Nat.le_refl _) _).setCell (Nat.le_refl _) _
  · have hd' : tm t = false := by simpa using hd
    have HV := Lib.hid (EV_no (z := z) (n := len) hd')
    clear hd
    go_enter Tryd.func40, Tryd.ntmps40
    go_wp2_with (go_at_call 39; refine (rT_any _ _).mono ?_; rintro e w' ⟨rfl, rfl⟩)
    refine bodyPost_ret (v := .agg #[.int .i64 0, .int .i64 0, .int .i64 0]) (by simp [results, Tryd.results40, go_sem]) rfl ⟨congrArg _ HV.out.symm, ?_⟩
    exact (Below.refl _ _).alloc (Nat.le_refl _) _
end Go.Proofs.YtainelkenkgppaaDoor
