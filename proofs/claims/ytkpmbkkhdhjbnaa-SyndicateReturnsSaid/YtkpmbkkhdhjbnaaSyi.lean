/- A transfer: the program's function. -/
import Derived.Test.YtkpmbkkhdhjbnaaSyh
import Derived.Deep.CutRange
namespace Go.Lott.Syn
section
variable {z : Nat → Nat → Int} {n i j : Nat} {f t p : Int}
theorem tr_ck (h : ckS z n ≠ 0) : trE z n f t p = ckS z n := if_pos h
theorem tr_e2 (h : ckS z n = 0) : trE z n f t p = trE2 z n f t p := by unfold trE; rw [if_neg (by omega)]
theorem tr_none (h : ckS z n = 0) (h1 : fnd z f n < 0) : trE z n f t p = 5 := by rw [tr_e2 h]; exact if_pos h1
theorem tr_range (h : ckS z n = 0) (h1 : fnd z f n = (i : Int)) (h2 : t < 1 ∨ t = f ∨ p < 1 ∨ z i 1 < p) : trE z n f t p = 2 := by
  rw [tr_e2 h]; unfold trE2; rw [h1, Int.toNat_natCast, if_neg (by omega), if_pos h2]
theorem tr_over (h : ckS z n = 0) (h1 : fnd z f n = (i : Int)) (h2 : ¬ (t < 1 ∨ t = f ∨ p < 1 ∨ z i 1 < p)) (h3 : fnd z t n = (j : Int)) (h4 : 1000000 < z j 1 + p) : trE z n f t p = 9 := by
  rw [tr_e2 h]; unfold trE2; rw [h1, Int.toNat_natCast, if_neg (by omega), if_neg h2, h3, Int.toNat_natCast, if_pos ⟨by omega, h4⟩]
theorem tr_lim (h : ckS z n = 0) (h1 : fnd z f n = (i : Int)) (h2 : ¬ (t < 1 ∨ t = f ∨ p < 1 ∨ z i 1 < p)) (h3 : fnd z t n < 0) (h4 : p < z i 1) (h5 : n = 64) : trE z n f t p = 3 := by
  rw [tr_e2 h]; unfold trE2; rw [h1, Int.toNat_natCast, if_neg (by omega), if_neg h2, if_neg (by omega), if_pos ⟨h3, h4, h5⟩]
theorem tr_fine1 (h : ckS z n = 0) (h1 : fnd z f n = (i : Int)) (h2 : ¬ (t < 1 ∨ t = f ∨ p < 1 ∨ z i 1 < p)) (h3 : fnd z t n = (j : Int)) (h4 : ¬ 1000000 < z j 1 + p) : trE z n f t p = 0 := by
  rw [tr_e2 h]; unfold trE2; rw [h1, Int.toNat_natCast, if_neg (by omega), if_neg h2, h3, Int.toNat_natCast, if_neg (by omega), if_neg (by omega)]
theorem tr_fine2 (h : ckS z n = 0) (h1 : fnd z f n = (i : Int)) (h2 : ¬ (t < 1 ∨ t = f ∨ p < 1 ∨ z i 1 < p)) (h3 : fnd z t n < 0) (h4 : ¬ (p < z i 1 ∧ n = 64)) : trE z n f t p = 0 := by
  rw [tr_e2 h]; unfold trE2; rw [h1, Int.toNat_natCast, if_neg (by omega), if_neg h2, if_neg (by omega), if_neg (by omega)]
theorem tr_tok (h : trE z n f t p = 0) (h1 : fnd z f n = (i : Int)) : TOk z n f t p i := by
  have := tr_ok h
  rwa [h1, Int.toNat_natCast] at this
theorem TOk.mv_len (h : TOk z n f t p i) : 1 ≤ (mvL z f t p n).length ∧ (mvL z f t p n).length ≤ 64 := by
  rw [← h.perm.length_eq]; exact ⟨h.vld.n1, h.len⟩
end
end Go.Lott.Syn
namespace Go.Proofs.Ytkpmbkkhdhjbnaa
open Go.ChangeShapes Go.WideShapes Go.ChangeAt Go.RowKit Go.Lott
open Go.Lott.Syn
theorem infoS : (Try.prog.info? 46).map (fun i => (i.zero, i.size, i.bytes)) = some (some (.agg #[.int .i64 0, .int .i64 0]), 2, 16) := by kernel_rfl
/-- What a transfer gives. -/
def TrPost (z : Nat → Nat → Int) (n : Nat) (f t p : Int) (w : World) (e : Ending) (w' : World) : Prop :=
  Below w.heap.size w w' ∧ ((trE z n f t p = 0 ∧ ∃ a cap, e = .returned (.tuple #[.slice a (trS z f t p n).length cap, .int .i64 0]) ∧ IsRows 2 w' a (trS z f t p n).length (zL (trS z f t p n)) ∧ (trS z f t p n).length ≤ cap) ∨
    (trE z n f t p ≠ 0 ∧ e = .returned (.tuple #[.slice none 0 0, .int .i64 (trE z n f t p)])))
theorem tr_err {z : Nat → Nat → Int} {n : Nat} {f t p : Int} {w w' : World} {E : Int} (hb : Below w.heap.size w w') (h : trE z n f t p = E) (h0 : E ≠ 0) : TrPost z n f t p w (.returned (.tuple #[.slice none 0 0, .int .i64 E])) w' :=
  ⟨hb, .inr ⟨by rw [h]; exact h0, by rw [h]⟩⟩
theorem ret_sl {a : Option Addr} {n n' cap : Nat} (h : n = n') : Ending.returned (.tuple #[.slice a n cap, .int .i64 0]) = .returned (.tuple #[.slice a n' cap, .int .i64 0]) := by rw [h]
theorem own_cap {w : World} {base : Nat} {e : TypeId} {size : Nat} {n g cap : Nat} {xs : List Value} (h : w.ownsRow base e size (.slice (some ⟨g, 0, none⟩) n cap) n xs) : n ≤ cap := by
  rcases h.2 with ⟨h, _⟩ | ⟨g', cap', cur, hv, _, _, hc, _⟩
  · cases h
  · injection hv with _ _ h3; omega
set_option maxRecDepth 100000 in
set_option maxHeartbeats 8000000 in
theorem Transfer_any (a : Option Addr) (n cap : Nat) (z : Nat → Nat → Int) (f t p : Int) (w : World) (hr : IsRows 2 w a n z) (hn : n ≤ 1000000) (hcap : n ≤ cap) :
    Calls Try.prog 29 #[.slice a n cap, .int .i64 f, .int .i64 t, .int .i64 p] w (TrPost z n f t p w) := by
  have hc := sCheck_any a n cap z w hr hn hcap
  have HR := Lib.hid hr
  clear hr
  by_cases hck : ckS z n = 0
  · have HCK := Lib.hid hck
    have HVL := Lib.hid (ck_vld hck)
    rw [hck] at hc
    have HC := Lib.hid hc
    have n1 := HVL.out.n1
    have n2 := HVL.out.n2
    clear hc hck hn
    obtain ⟨b, o, rfl, hbb, _, hcell⟩ := HR.out.resolve_left (by omega)
    have HCL := Lib.hid hcell
    clear hcell
    have hf1 := fun (W : World) (hb : Below w.heap.size w W) => find_any (some ⟨b, o, none⟩) n cap z f W (HR.out.below hb (Nat.le_refl _)) (by omega)
    have hf2 := fun (W : World) (hb : Below w.heap.size w W) => find_any (some ⟨b, o, none⟩) n cap z t W (HR.out.below hb (Nat.le_refl _)) (by omega)
    by_cases hfn : fnd z f n < 0
    · have HV := Lib.hid (tr_none (t := t) (p := p) HCK.out hfn)
      have HF1 := Lib.hid hf1
      clear hf1 hf2
      go_enter Try.func29, Try.ntmps29
      go_wp2_with (first | (go_at_call 26; ((with_reducible refine (HC.out).mono ?_); rintro e w0 ⟨rfl, hb0⟩; have HB0 := Lib.hid hb0; clear hb0)) | (go_at_call 46; ((with_reducible refine (HF1.out _ HB0.out).mono ?_); rintro e w1 ⟨rfl, hb1⟩; have HB1 := Lib.hid (HB0.out.trans (hb1.mono HB0.out.size)); clear hb1)))
      go_ret2
      exact tr_err HB1.out HV.out (by decide)
    · obtain ⟨i, hi0, hin, hzi⟩ := fnd_pos hfn
      have HI := Lib.hid hi0
      have HZI := Lib.hid hzi
      rw [hi0] at hf1
      have HF1 := Lib.hid hf1
      have hri := HVL.out.rng i hin
      obtain ⟨_, r1, r2⟩ := hri
      have HCI := Lib.hid (fun (W : World) (hb : Below w.heap.size w W) => (show W.cell? ⟨b, o + i * 2 + 1, none⟩ = some (.int .i64 (z i 1)) from (hb.cell (p := ⟨b, _, none⟩) hbb).trans (HCL.out i 1 hin (by omega))))
      have i1 : (0 : Int) ≤ (i : Int) := by omega
      have i2 : (i : Int) < (n : Int) := by omega
      clear hi0 hzi hf1 hfn
      by_cases t1 : t < 1
      · clear hf2
        have HV := Lib.hid (tr_range (t := t) (p := p) HCK.out HI.out (.inl t1))
        go_enter Try.func29, Try.ntmps29
        go_wp2_with (first | (go_at_call 26; ((with_reducible refine (HC.out).mono ?_); rintro e w0 ⟨rfl, hb0⟩; have HB0 := Lib.hid hb0; clear hb0)) | (go_at_call 46; ((with_reducible refine (HF1.out _ HB0.out).mono ?_); rintro e w1 ⟨rfl, hb1⟩; have cI1 := HCI.out _ (HB0.out.trans (hb1.mono HB0.out.size)); have HB1 := Lib.hid (HB0.out.trans (hb1.mono HB0.out.size)); clear hb1)))
        go_ret2
        exact tr_err HB1.out HV.out (by decide)
      by_cases htf : t = f
      · have tf1 : (t == f) = true := by rw [beq_iff_eq]; exact htf
        have HTF := Lib.hid htf
        clear hf2 htf
        have HV := Lib.hid (tr_range (t := t) (p := p) HCK.out HI.out (.inr (.inl HTF.out)))
        go_enter Try.func29, Try.ntmps29
        go_wp2_with (first | (go_at_call 26; ((with_reducible refine (HC.out).mono ?_); rintro e w0 ⟨rfl, hb0⟩; have HB0 := Lib.hid hb0; clear hb0)) | (go_at_call 46; ((with_reducible refine (HF1.out _ HB0.out).mono ?_); rintro e w1 ⟨rfl, hb1⟩; have cI1 := HCI.out _ (HB0.out.trans (hb1.mono HB0.out.size)); have HB1 := Lib.hid (HB0.out.trans (hb1.mono HB0.out.size)); clear hb1)))
        go_ret2
        exact tr_err HB1.out HV.out (by decide)
      have tf1 : (t == f) = false := by rw [beq_eq_false_iff_ne]; exact htf
      have HTF := Lib.hid htf
      clear htf
      by_cases p1 : p < 1
      · clear hf2
        have HV := Lib.hid (tr_range (t := t) (p := p) HCK.out HI.out (.inr (.inr (.inl p1))))
        go_enter Try.func29, Try.ntmps29
        go_wp2_with (first | (go_at_call 26; ((with_reducible refine (HC.out).mono ?_); rintro e w0 ⟨rfl, hb0⟩; have HB0 := Lib.hid hb0; clear hb0)) | (go_at_call 46; ((with_reducible refine (HF1.out _ HB0.out).mono ?_); rintro e w1 ⟨rfl, hb1⟩; have cI1 := HCI.out _ (HB0.out.trans (hb1.mono HB0.out.size)); have HB1 := Lib.hid (HB0.out.trans (hb1.mono HB0.out.size)); clear hb1)))
        go_ret2
        exact tr_err HB1.out HV.out (by decide)
      by_cases p2 : z i 1 < p
      · clear hf2
        have HV := Lib.hid (tr_range (t := t) (p := p) HCK.out HI.out (.inr (.inr (.inr p2))))
        go_enter Try.func29, Try.ntmps29
        go_wp2_with (first | (go_at_call 26; ((with_reducible refine (HC.out).mono ?_); rintro e w0 ⟨rfl, hb0⟩; have HB0 := Lib.hid hb0; clear hb0)) | (go_at_call 46; ((with_reducible refine (HF1.out _ HB0.out).mono ?_); rintro e w1 ⟨rfl, hb1⟩; have cI1 := HCI.out _ (HB0.out.trans (hb1.mono HB0.out.size)); have HB1 := Lib.hid (HB0.out.trans (hb1.mono HB0.out.size)); clear hb1)))
        go_ret2
        exact tr_err HB1.out HV.out (by decide)
      have HRG := Lib.hid (show ¬ (t < 1 ∨ t = f ∨ p < 1 ∨ z i 1 < p) from fun h => by
        rcases h with h | h | h | h
        · exact t1 h
        · exact HTF.out h
        · exact p1 h
        · exact p2 h)
      obtain ⟨e0, he0, hz0, hz1, hz2⟩ := info_parts infoS
      have tok1 : True := trivial
      have tok2 : True := trivial
      have hb8 : e0.bytes * (n + 1) ≤ 281474976710656 := by rw [hz2]; omega
      have hml : n + 1 ≤ maxLen := by unfold maxLen; omega
      have HF2 := Lib.hid hf2
      by_cases hok : trE z n f t p = 0
      · have HV := Lib.hid hok
        have HT := Lib.hid (tr_tok hok HI.out)
        have HOV := Lib.hid HT.out.ov
        have HLM := Lib.hid HT.out.lm
        clear hf2 hok
        go_enter Try.func29, Try.ntmps29
        go_upto_region 12 with (first | (go_at_call 26; ((with_reducible refine (HC.out).mono ?_); rintro e w0 ⟨rfl, hb0⟩; have HB0 := Lib.hid hb0; clear hb0)) | (go_at_call 46; ((with_reducible refine (HF1.out _ HB0.out).mono ?_); rintro e w1 ⟨rfl, hb1⟩; have cI1 := HCI.out _ (HB0.out.trans (hb1.mono HB0.out.size)); have HB1 := Lib.hid (HB0.out.trans (hb1.mono HB0.out.size)); clear hb1)) | (go_at_call 46; ((with_reducible refine (HF2.out _ HB1.out).mono ?_); rintro e w2 ⟨rfl, hb2⟩; have cI2 := HCI.out _ (HB1.out.trans (hb2.mono HB1.out.size)); skip; have HB2 := Lib.hid (HB1.out.trans (hb2.mono HB1.out.size)); clear hb2)))
        go_cut [58] from 47 to 58 (fun s wx => s = .bool false ∧ w2 = wx)
        case first =>
          by_cases hft : fnd z t n < 0
          · have hft1 : ¬ 0 ≤ fnd z t n := by omega
            go_wp2
            go_meet
            exact ⟨rfl, rfl⟩
          · obtain ⟨j, hj0, hjn, hzj⟩ := fnd_pos hft
            obtain ⟨_, q1, q2⟩ := HVL.out.rng j hjn
            have ov : ¬ 1000000 < z j 1 + p := by have := HOV.out j hjn hzj; omega
            have cJ2 : w2.cell? ⟨b, o + j * 2 + 1, none⟩ = some (.int .i64 (z j 1)) := (HB2.out.cell (p := ⟨b, _, none⟩) hbb).trans (HCL.out j 1 hjn (by omega))
            have j1 : (0 : Int) ≤ fnd z t n := by omega
            have j2 : fnd z t n < (n : Int) := by omega
            have j3 : (fnd z t n).toNat = j := by omega
            clear hzj hft hj0
            go_wp2
            go_meet
            exact ⟨rfl, rfl⟩
        case rest =>
          obtain ⟨rfl, rfl⟩ := hcut
          go_upto_region 14 with fail
          go_cut [74] from 59 to 74 (fun s wx => s = .bool false ∧ w2 = wx)
          case first =>
            by_cases hft : fnd z t n < 0
            · by_cases l1 : p < z i 1
              · have l3 : ((n : Int) == 64) = false := by rw [beq_eq_false_iff_ne]; have := HLM.out hft l1; omega
                go_wp2
                go_meet
                exact ⟨rfl, rfl⟩
              · go_wp2
                go_meet
                exact ⟨rfl, rfl⟩
            · have hft1 : 0 ≤ fnd z t n := by omega
              go_wp2
              go_meet
              exact ⟨rfl, rfl⟩
          case rest =>
            obtain ⟨rfl, rfl⟩ := hcut
            go_wp2_with (have _t := tok1; refine wpList_make_own _ rfl _ _ 35 rfl w.heap.size 46 e0 (.agg #[.int .i64 0, .int .i64 0]) 2 Try.underlying35 he0 hz0 hz1 .i64 .i64 ((n : Int) + 1) (n + 1) (by rfl) (by rfl) (by omega) hb8 hml (HB2.out.size) ?_; intro wA oA gA; clear tok1)
            have b1 : Below w2.heap.size w2 wA := (Below.refl _ _).grown gA (Nat.le_refl _) (fun k hk => by cases hk)
            have b2 := HB2.out.trans (b1.mono HB2.out.size)
            have HOA := Lib.hid oA
            clear oA gA b1
            go_loopw [13, 81] (fun vm vi wr => ∃ (k : Nat) (v8 : Value), v8 = vm ∧ vi = .int .i64 k ∧ k ≤ n ∧ wr.ownsRow w.heap.size 46 2 v8 (kpL z f t p k).length (fl2 (kpL z f t p k)) ∧ Below w.heap.size w wr) (fun _ vi _ => n - (intOf vi).toNat)
            case atStart => exact ⟨0, _, rfl, rfl, by omega, HOA.out, b2⟩
            case round =>
              obtain ⟨k, v8, rfl, rfl, hk, o8, hbel⟩ := hrel
              have O8 := Lib.hid o8
              have hbs := hbel.size
              clear o8
              by_cases hlt : k < n
              · have c0 : wr.cell? ⟨b, o + k * 2, none⟩ = some (.int .i64 (z k 0)) := (hbel.cell (p := ⟨b, _, none⟩) hbb).trans (HCL.out k 0 hlt (by omega))
                have c1 : wr.cell? ⟨b, o + k * 2 + 1, none⟩ = some (.int .i64 (z k 1)) := (hbel.cell (p := ⟨b, _, none⟩) hbb).trans (HCL.out k 1 hlt (by omega))
                obtain ⟨_, v1, v2⟩ := HVL.out.rng k hlt
                have hkl := kpL_length z f t p k
                have k1 : (0 : Int) ≤ (k : Int) := by omega
                have k2 : (k : Int) < (n : Int) := by omega
                by_cases hzf : z k 0 = f
                · have f1 : (z k 0 == f) = true := by rw [beq_iff_eq]; exact hzf
                  have hm : mvP f t p (z k 0, z k 1) = (z k 0, z k 1 - p) := by rw [mvP_f (x := (z k 0, z k 1)) hzf, hzf]
                  have hki : k = i := HVL.out.inj hlt hin (hzf.trans HZI.out.symm)
                  have v3 : p ≤ z k 1 := by rw [hki]; omega
                  clear hzf hki
                  by_cases v4 : 0 < z k 1 - p
                  · have HN := Lib.hid (kpL_yes (z := z) (f := f) (t := t) (p := p) (k := k) (by rw [hm]; exact v4))
                    rw [hm] at HN
                    clear hm
                    have hh := heap_alloc_new (wr.alloc (.cells #[.int .i64 (z k 0), .int .i64 (z k 1 - p)] 46)) (.cells #[.int .i64 (z k 0), .int .i64 (z k 1 - p)] 46)
                    rw [show (wr.alloc (.cells #[.int .i64 (z k 0), .int .i64 (z k 1 - p)] 46)).heap.size = wr.heap.size + 1 by simp] at hh
                    have HH := Lib.hid hh
                    have hkb : ((kpL z f t p k).length + 1) * 16 ≤ 140737488355328 := by omega
                    have hkm : (kpL z f t p k).length + 1 ≤ maxLen := by unfold maxLen; omega
                    have hbz : w.heap.size ≤ ((wr.alloc (.cells #[.int .i64 (z k 0), .int .i64 (z k 1 - p)] 46)).alloc (.cells #[.int .i64 (z k 0), .int .i64 (z k 1 - p)] 46)).heap.size := by simp; omega
                    clear hh
                    go_wp2_with (at_builtin; have _t := tok2; refine wpList_append_lies _ rfl _ _ 35 rfl w.heap.size 46 e0 (.agg #[.int .i64 0, .int .i64 0]) 2 16 Try.underlying35 he0 hz0 hz1 hz2 rfl (by decide) v8 (kpL z f t p k).length (fl2 (kpL z f t p k)) (by rfl) ((O8.out.alloc _).alloc _) ⟨wr.heap.size + 1, 0, none⟩ 1 1 [.int .i64 (z k 0), .int .i64 (z k 1 - p)] (by rfl) (by rfl) (World.news_of_block (cs := #[.int .i64 (z k 0), .int .i64 (z k 1 - p)]) (t := 46) (fr := (0, 0)) HH.out) (by simp [Value.oneCell']) (by omega) hkm hkb hbz (wr.heap.size + 1 + 1) (by simp) ?_; intro g8 c8 w3 own8 gr8 at8 lt8; clear tok2)
                    have hb1 := ((hbel.alloc hbs (.cells #[.int .i64 (z k 0), .int .i64 (z k 1 - p)] 46)).alloc (by simp; omega) (.cells #[.int .i64 (z k 0), .int .i64 (z k 1 - p)] 46)).grown gr8 (by simp; omega) (own_ge O8.out)
                    have H8 := Lib.hid own8
                    clear own8 gr8 at8 lt8
                    go_roundw
                    case rel => exact ⟨k + 1, _, rfl, by go_num, hlt, by rw [HN.out, List.length_append, fl2_snoc]; exact H8.out, hb1⟩
                    case measure => simp [intOf]; omega
                  · have HN := Lib.hid (kpL_no (z := z) (f := f) (t := t) (p := p) (k := k) (by rw [hm]; exact v4))
                    clear hm
                    go_wp2
                    go_roundw
                    case rel => exact ⟨k + 1, _, rfl, by go_num, hlt, by rw [HN.out]; exact O8.out.alloc _, hbel.alloc hbs _⟩
                    case measure => simp [intOf]; omega
                · have f1 : (z k 0 == f) = false := by rw [beq_eq_false_iff_ne]; exact hzf
                  by_cases hzt : z k 0 = t
                  · have f2 : (z k 0 == t) = true := by rw [beq_iff_eq]; exact hzt
                    have hm : mvP f t p (z k 0, z k 1) = (z k 0, z k 1 + p) := by rw [mvP_t (x := (z k 0, z k 1)) hzt HTF.out, hzt]
                    have v4 : 0 < z k 1 + p := by omega
                    have HN := Lib.hid (kpL_yes (z := z) (f := f) (t := t) (p := p) (k := k) (by rw [hm]; exact v4))
                    rw [hm] at HN
                    clear hm hzf hzt
                    have hh := heap_alloc_new (wr.alloc (.cells #[.int .i64 (z k 0), .int .i64 (z k 1 + p)] 46)) (.cells #[.int .i64 (z k 0), .int .i64 (z k 1 + p)] 46)
                    rw [show (wr.alloc (.cells #[.int .i64 (z k 0), .int .i64 (z k 1 + p)] 46)).heap.size = wr.heap.size + 1 by simp] at hh
                    have HH := Lib.hid hh
                    have hkb : ((kpL z f t p k).length + 1) * 16 ≤ 140737488355328 := by omega
                    have hkm : (kpL z f t p k).length + 1 ≤ maxLen := by unfold maxLen; omega
                    have hbz : w.heap.size ≤ ((wr.alloc (.cells #[.int .i64 (z k 0), .int .i64 (z k 1 + p)] 46)).alloc (.cells #[.int .i64 (z k 0), .int .i64 (z k 1 + p)] 46)).heap.size := by simp; omega
                    clear hh
                    go_wp2_with (at_builtin; have _t := tok2; refine wpList_append_lies _ rfl _ _ 35 rfl w.heap.size 46 e0 (.agg #[.int .i64 0, .int .i64 0]) 2 16 Try.underlying35 he0 hz0 hz1 hz2 rfl (by decide) v8 (kpL z f t p k).length (fl2 (kpL z f t p k)) (by rfl) ((O8.out.alloc _).alloc _) ⟨wr.heap.size + 1, 0, none⟩ 1 1 [.int .i64 (z k 0), .int .i64 (z k 1 + p)] (by rfl) (by rfl) (World.news_of_block (cs := #[.int .i64 (z k 0), .int .i64 (z k 1 + p)]) (t := 46) (fr := (0, 0)) HH.out) (by simp [Value.oneCell']) (by omega) hkm hkb hbz (wr.heap.size + 1 + 1) (by simp) ?_; intro g8 c8 w3 own8 gr8 at8 lt8; clear tok2)
                    have hb1 := ((hbel.alloc hbs (.cells #[.int .i64 (z k 0), .int .i64 (z k 1 + p)] 46)).alloc (by simp; omega) (.cells #[.int .i64 (z k 0), .int .i64 (z k 1 + p)] 46)).grown gr8 (by simp; omega) (own_ge O8.out)
                    have H8 := Lib.hid own8
                    clear own8 gr8 at8 lt8
                    go_roundw
                    case rel => exact ⟨k + 1, _, rfl, by go_num, hlt, by rw [HN.out, List.length_append, fl2_snoc]; exact H8.out, hb1⟩
                    case measure => simp [intOf]; omega
                  · have f2 : (z k 0 == t) = false := by rw [beq_eq_false_iff_ne]; exact hzt
                    have hm : mvP f t p (z k 0, z k 1) = (z k 0, z k 1) := mvP_o (x := (z k 0, z k 1)) hzt hzf
                    have v4 : 0 < z k 1 := by omega
                    have HN := Lib.hid (kpL_yes (z := z) (f := f) (t := t) (p := p) (k := k) (by rw [hm]; exact v4))
                    rw [hm] at HN
                    clear hm hzf hzt
                    have hh := heap_alloc_new (wr.alloc (.cells #[.int .i64 (z k 0), .int .i64 (z k 1)] 46)) (.cells #[.int .i64 (z k 0), .int .i64 (z k 1)] 46)
                    rw [show (wr.alloc (.cells #[.int .i64 (z k 0), .int .i64 (z k 1)] 46)).heap.size = wr.heap.size + 1 by simp] at hh
                    have HH := Lib.hid hh
                    have hkb : ((kpL z f t p k).length + 1) * 16 ≤ 140737488355328 := by omega
                    have hkm : (kpL z f t p k).length + 1 ≤ maxLen := by unfold maxLen; omega
                    have hbz : w.heap.size ≤ ((wr.alloc (.cells #[.int .i64 (z k 0), .int .i64 (z k 1)] 46)).alloc (.cells #[.int .i64 (z k 0), .int .i64 (z k 1)] 46)).heap.size := by simp; omega
                    clear hh
                    go_wp2_with (at_builtin; have _t := tok2; refine wpList_append_lies _ rfl _ _ 35 rfl w.heap.size 46 e0 (.agg #[.int .i64 0, .int .i64 0]) 2 16 Try.underlying35 he0 hz0 hz1 hz2 rfl (by decide) v8 (kpL z f t p k).length (fl2 (kpL z f t p k)) (by rfl) ((O8.out.alloc _).alloc _) ⟨wr.heap.size + 1, 0, none⟩ 1 1 [.int .i64 (z k 0), .int .i64 (z k 1)] (by rfl) (by rfl) (World.news_of_block (cs := #[.int .i64 (z k 0), .int .i64 (z k 1)]) (t := 46) (fr := (0, 0)) HH.out) (by simp [Value.oneCell']) (by omega) hkm hkb hbz (wr.heap.size + 1 + 1) (by simp) ?_; intro g8 c8 w3 own8 gr8 at8 lt8; clear tok2)
                    have hb1 := ((hbel.alloc hbs (.cells #[.int .i64 (z k 0), .int .i64 (z k 1)] 46)).alloc (by simp; omega) (.cells #[.int .i64 (z k 0), .int .i64 (z k 1)] 46)).grown gr8 (by simp; omega) (own_ge O8.out)
                    have H8 := Lib.hid own8
                    clear own8 gr8 at8 lt8
                    go_roundw
                    case rel => exact ⟨k + 1, _, rfl, by go_num, hlt, by rw [HN.out, List.length_append, fl2_snoc]; exact H8.out, hb1⟩
                    case measure => simp [intOf]; omega
              · obtain rfl : k = n := by omega
                obtain ⟨ml1, ml2⟩ := HT.out.mv_len
                have hkl := kpL_length z f t p k
                by_cases hft : fnd z t k < 0
                · have hmv : mvL z f t p k = kpL z f t p k ++ [(t, p)] := by unfold mvL; rw [if_pos hft]
                  have hlen : (mvL z f t p k).length = (kpL z f t p k).length + 1 := by rw [hmv, List.length_append]; rfl
                  have hfl : fl2 (mvL z f t p k) = fl2 (kpL z f t p k) ++ [.int .i64 t, .int .i64 p] := by rw [hmv, fl2_snoc]; rfl
                  have hso := fun g cap w hR => sortS_any (mvL z f t p k) g cap 46 w hR (by omega) HT.out.nodup
                  simp only [hlen] at hso
                  have HSO := Lib.hid hso
                  have HLEN := Lib.hid hlen
                  have HFL := Lib.hid hfl
                  have HH := Lib.hid (heap_alloc_new wr (.cells #[.int .i64 t, .int .i64 p] 46))
                  have hkb : ((kpL z f t p k).length + 1) * 16 ≤ 140737488355328 := by omega
                  have hkm : (kpL z f t p k).length + 1 ≤ maxLen := by unfold maxLen; omega
                  have hbz : w.heap.size ≤ (wr.alloc (.cells #[.int .i64 t, .int .i64 p] 46)).heap.size := by simp; omega
                  clear hmv hlen hfl hso
                  go_wp2_with (first
                    | (at_builtin; have _t := tok2; refine wpList_append_lies _ rfl _ _ 35 rfl w.heap.size 46 e0 (.agg #[.int .i64 0, .int .i64 0]) 2 16 Try.underlying35 he0 hz0 hz1 hz2 rfl (by decide) v8 (kpL z f t p k).length (fl2 (kpL z f t p k)) (by rfl) (O8.out.alloc _) ⟨wr.heap.size, 0, none⟩ 1 1 [.int .i64 t, .int .i64 p] (by rfl) (by rfl) (World.news_of_block (cs := #[.int .i64 t, .int .i64 p]) (t := 46) (fr := (0, 0)) HH.out) (by simp [Value.oneCell']) (by omega) hkm hkb hbz (wr.heap.size + 1) (by simp) ?_; intro g8 c8 w3 own8 gr8 at8 lt8; clear tok2; have HG8 := Lib.hid (own_ge own8 g8 rfl); have HCAP := Lib.hid (own_cap own8); have HB3 := Lib.hid ((hbel.alloc hbs (.cells #[.int .i64 t, .int .i64 p] 46)).grown gr8 hbz (own_ge O8.out)); have HRW := Lib.hid (rw2_of_owns (l := mvL z f t p k) HLEN.out.symm (by rw [HFL.out]; exact own8)); clear own8 gr8 at8 lt8)
                    | (go_at_call 47; ((with_reducible refine (HSO.out _ _ _ HRW.out).mono ?_); rintro e w4 ⟨rfl, hb4, r4, l4⟩; have HB4 := Lib.hid (HB3.out.trans (hb4.mono HG8.out)); have HR4 := Lib.hid r4; have HL4 := Lib.hid l4; clear hb4 r4 l4)))
                  go_ret2
                  exact ⟨HB4.out, .inl ⟨HV.out, some ⟨g8, 0, none⟩, c8, ret_sl (show (kpL z f t p k).length + 1 = (trS z f t p k).length by unfold trS; rw [HL4.out]), by unfold trS; rw [HL4.out]; exact HR4.out, by unfold trS; rw [HL4.out]; exact HCAP.out⟩⟩
                · have hmv : mvL z f t p k = kpL z f t p k := by unfold mvL; rw [if_neg hft, List.append_nil]
                  rw [hmv] at ml1
                  obtain ⟨g8, c8, rfl, hg8, hl8⟩ := O8.out.form (by omega)
                  have hso := fun g cap w hR => sortS_any (mvL z f t p k) g cap 46 w hR (by omega) HT.out.nodup
                  simp only [hmv] at hso
                  have HSO := Lib.hid hso
                  have HMV := Lib.hid hmv
                  have HRW := Lib.hid (rw2_of_owns (l := kpL z f t p k) rfl O8.out)
                  clear hso hmv
                  go_wp2_with (go_at_call 47; ((with_reducible refine (HSO.out _ _ _ HRW.out).mono ?_); rintro e w4 ⟨rfl, hb4, r4, l4⟩; have HB4 := Lib.hid (hbel.trans (hb4.mono hg8)); have HR4 := Lib.hid r4; have HL4 := Lib.hid l4; clear hb4 r4 l4))
                  go_ret2
                  exact ⟨HB4.out, .inl ⟨HV.out, some ⟨g8, 0, none⟩, c8, ret_sl (show (kpL z f t p k).length = (trS z f t p k).length by unfold trS; rw [HMV.out, HL4.out]), by unfold trS; rw [HMV.out, HL4.out]; exact HR4.out, by unfold trS; rw [HMV.out, HL4.out]; exact own_cap O8.out⟩⟩
      · by_cases hft : fnd z t n < 0
        · by_cases hlm : p < z i 1 ∧ n = 64
          · have HV := Lib.hid (tr_lim HCK.out HI.out HRG.out hft hlm.1 hlm.2)
            obtain ⟨l1, l2⟩ := hlm
            have l3 : ((n : Int) == 64) = true := by rw [beq_iff_eq]; omega
            clear hf2 l2 hok
            go_enter Try.func29, Try.ntmps29
            go_wp2_with (first | (go_at_call 26; ((with_reducible refine (HC.out).mono ?_); rintro e w0 ⟨rfl, hb0⟩; have HB0 := Lib.hid hb0; clear hb0)) | (go_at_call 46; ((with_reducible refine (HF1.out _ HB0.out).mono ?_); rintro e w1 ⟨rfl, hb1⟩; have cI1 := HCI.out _ (HB0.out.trans (hb1.mono HB0.out.size)); have HB1 := Lib.hid (HB0.out.trans (hb1.mono HB0.out.size)); clear hb1)) | (go_at_call 46; ((with_reducible refine (HF2.out _ HB1.out).mono ?_); rintro e w2 ⟨rfl, hb2⟩; have cI2 := HCI.out _ (HB1.out.trans (hb2.mono HB1.out.size)); skip; have HB2 := Lib.hid (HB1.out.trans (hb2.mono HB1.out.size)); clear hb2)))
            go_ret2
            exact tr_err HB2.out HV.out (by decide)
          · exact absurd (tr_fine2 HCK.out HI.out HRG.out hft hlm) hok
        · obtain ⟨j, hj0, hjn, hzj⟩ := fnd_pos hft
          have HJ := Lib.hid hj0
          rw [hj0] at hf2
          have HF3 := Lib.hid hf2
          have hrj := HVL.out.rng j hjn
          obtain ⟨_, q1, q2⟩ := hrj
          have HCJ := Lib.hid (fun (W : World) (hb : Below w.heap.size w W) => (show W.cell? ⟨b, o + j * 2 + 1, none⟩ = some (.int .i64 (z j 1)) from (hb.cell (p := ⟨b, _, none⟩) hbb).trans (HCL.out j 1 hjn (by omega))))
          have j1 : (0 : Int) ≤ (j : Int) := by omega
          have j2 : (j : Int) < (n : Int) := by omega
          clear hj0 hzj hf2 hft
          by_cases ov : 1000000 < z j 1 + p
          · have HV := Lib.hid (tr_over HCK.out HI.out HRG.out HJ.out ov)
            clear hok
            go_enter Try.func29, Try.ntmps29
            go_wp2_with (first | (go_at_call 26; ((with_reducible refine (HC.out).mono ?_); rintro e w0 ⟨rfl, hb0⟩; have HB0 := Lib.hid hb0; clear hb0)) | (go_at_call 46; ((with_reducible refine (HF1.out _ HB0.out).mono ?_); rintro e w1 ⟨rfl, hb1⟩; have cI1 := HCI.out _ (HB0.out.trans (hb1.mono HB0.out.size)); have HB1 := Lib.hid (HB0.out.trans (hb1.mono HB0.out.size)); clear hb1)) | (go_at_call 46; ((with_reducible refine (HF3.out _ HB1.out).mono ?_); rintro e w2 ⟨rfl, hb2⟩; have cJ2 := HCJ.out _ (HB1.out.trans (hb2.mono HB1.out.size)); have HB2 := Lib.hid (HB1.out.trans (hb2.mono HB1.out.size)); clear hb2)))
            go_ret2
            exact tr_err HB2.out HV.out (by decide)
          · exact absurd (tr_fine1 HCK.out HI.out HRG.out HJ.out ov) hok
  · have HC := Lib.hid hc
    have HE := Lib.hid hck
    have he1 : (ckS z n != 0) = true := by rw [bne_iff_ne]; exact hck
    have HV := Lib.hid (tr_ck (f := f) (t := t) (p := p) hck)
    clear hck hc
    go_enter Try.func29, Try.ntmps29
    go_wp2_with (go_at_call 26; ((with_reducible refine (HC.out).mono ?_); rintro e w0 ⟨rfl, hb0⟩; have HB0 := Lib.hid hb0; clear hb0))
    go_ret2
    exact tr_err HB0.out HV.out HE.out
end Go.Proofs.Ytkpmbkkhdhjbnaa
