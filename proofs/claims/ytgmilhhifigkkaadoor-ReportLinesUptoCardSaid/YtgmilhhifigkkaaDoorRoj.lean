/- The report of a draw: the reference's walk. -/
import Derived.Test.YtgmilhhifigkkaaDoorRoi
import Derived.Deep.CutBlock
import Derived.Deep.DeepCutAuto
namespace Go.Proofs.YtgmilhhifigkkaaDoor
open Go.ChangeShapes Go.WideShapes Go.ChangeAt Go.RowKit Go.Lott
open Go.Lott.Mny Go.Lott.Rp
attribute [local go_sem ↓] Go.wp_at_zero Go.wp_at_succ
/-- What a cut of the walk leaves: a text, and below the boxes all stands. -/
def DC (V : World) (l : List UInt8) (m : Nat) (v : Value) (wx : World) : Prop := ∃ x, v = .string x ∧ Tx x l m ∧ Below V.heap.size V wx
theorem rd_cells {w V : World} {g r a : Array Value} {T1 T2 T3 : TypeId} (h : V = ((w.alloc (.cells g T1)).alloc (.cells r T2)).alloc (.cells a T3)) :
    (∀ y, Below V.heap.size V y → ∀ j v, g[j]? = some v → y.cell? ⟨w.heap.size, j, none⟩ = some v) ∧ (∀ y, Below V.heap.size V y → ∀ j v, r[j]? = some v → y.cell? ⟨w.heap.size + 1, j, none⟩ = some v) ∧
    (∀ y, Below V.heap.size V y → ∀ j v, a[j]? = some v → y.cell? ⟨w.heap.size + 1 + 1, j, none⟩ = some v) ∧ Below w.heap.size w V := by
  subst h
  have e1 : (w.alloc (.cells g T1)).heap.size = w.heap.size + 1 := by simp
  have e2 : ((w.alloc (.cells g T1)).alloc (.cells r T2)).heap.size = w.heap.size + 1 + 1 := by simp
  have c1 := ((Cel.new w g T1).alloc (.cells r T2)).alloc (.cells a T3)
  have c2 := (Cel.new (w.alloc (.cells g T1)) r T2).alloc (.cells a T3)
  have c3 := Cel.new ((w.alloc (.cells g T1)).alloc (.cells r T2)) a T3
  rw [e1] at c2
  rw [e2] at c3
  exact ⟨fun y hy j v hv => ((c1.below hy c1.lt).cell j).trans hv, fun y hy j v hv => ((c2.below hy c2.lt).cell j).trans hv, fun y hy j v hv => ((c3.below hy c3.lt).cell j).trans hv,
    (((Below.refl _ _).alloc (Nat.le_refl _) _).alloc (by simp) _).alloc (by simp; omega) _⟩
theorem one_row0 (w : World) (t : Int) : IsRow (w.alloc (.cells #[.int .i64 t] 3)) (some ⟨w.heap.size, 0, none⟩) 1 (fun _ => t) :=
  .inr ⟨_, 0, rfl, by simp, by decide, fun i hi => by
    obtain rfl : i = 0 := by omega
    simp⟩
set_option maxHeartbeats 8000000 in
set_option maxRecDepth 100000 in
theorem rDraw_any (gn : ByteArray) (y : Nat → Int) (p1 : Option Addr) (q1 r1 : Nat) (p2 : Option Addr) (q2 r2 : Nat) (n : Int) (a1 : Option Addr) (n1 c1 : Nat) (z1 : Nat → Int) (a2 : Option Addr) (n2 c2 : Nat) (z2 : Nat → Int) (a3 : Option Addr) (n3 c3 : Nat) (z3 : Nat → Int) (f : Int) (s : ByteArray) (ac : Option Addr) (nc cc : Nat) (zc : Nat → Int) (ae : Option Addr) (ne ce : Nat) (ze : Nat → Int) (ap : Option Addr) (np cp : Nat) (zp : Nat → Int) (br dr : Int) (an : Option Addr) (nn cn : Nat) (zn : Nat → Int) (rs ro : Int) (w : World) (hgn : gn.size ≤ 2000000) (hn : I64 n) (hr1 : NRow w a1 n1 z1) (hr2 : NRow w a2 n2 z2) (hr3 : NRow w a3 n3 z3) (hf : I64 f) (hs : s.size ≤ 2000000) (hrc : NRow w ac nc zc) (hre : NRow w ae ne ze) (hrp : NRow w ap np zp) (hbr : I64 br) (hdr : I64 dr) (hrn : NRow w an nn zn) (hrs : I64 rs) (hro : I64 ro) (hn1 : n1 ≤ 50) (hn2 : n2 ≤ 50) (hn3 : n3 ≤ 50) (hnc : nc ≤ 50) (hnn : nn ≤ 50) :
    Calls Tryd.prog 22 #[.agg #[.string gn, .int .i64 (y 1), .int .i64 (y 2), .int .i64 (y 3), .int .i64 (y 4), .int .i64 (y 5), .int .i64 (y 6), .int .i64 (y 7), .int .i64 (y 8), .int .i64 (y 9), .int .i64 (y 10), .int .i64 (y 11), .int .i64 (y 12), .int .i64 (y 13), .int .i64 (y 14), .int .i64 (y 15), .int .i64 (y 16), .int .i64 (y 17), .int .i64 (y 18), .int .i64 (y 19), .slice p1 q1 r1, .slice p2 q2 r2], .int .i64 n, .agg #[.slice a1 n1 c1, .slice a2 n2 c2, .slice a3 n3 c3, .int .i64 f, .string s], .agg #[.slice ac nc cc, .slice ae ne ce, .slice ap np cp, .int .i64 br, .int .i64 dr, .slice an nn cn, .int .i64 rs, .int .i64 ro]] w (RetB (.string ⟨(drwT gn.data.toList n n1 z1 n2 z2 n3 z3 f s.data.toList (min (min nc ne) np) zc ze zp br dr nn zn rs ro).toArray⟩) w) := by
  obtain ⟨V, hV⟩ : ∃ V : World, V = ((w.alloc (.cells #[.string gn, .int .i64 (y 1), .int .i64 (y 2), .int .i64 (y 3), .int .i64 (y 4), .int .i64 (y 5), .int .i64 (y 6), .int .i64 (y 7), .int .i64 (y 8), .int .i64 (y 9), .int .i64 (y 10), .int .i64 (y 11), .int .i64 (y 12), .int .i64 (y 13), .int .i64 (y 14), .int .i64 (y 15), .int .i64 (y 16), .int .i64 (y 17), .int .i64 (y 18), .int .i64 (y 19), .slice p1 q1 r1, .slice p2 q2 r2] 41)).alloc (.cells #[.slice a1 n1 c1, .slice a2 n2 c2, .slice a3 n3 c3, .int .i64 f, .string s] 43)).alloc (.cells #[.slice ac nc cc, .slice ae ne ce, .slice ap np cp, .int .i64 br, .int .i64 dr, .slice an nn cn, .int .i64 rs, .int .i64 ro] 47) := ⟨_, rfl⟩
  obtain ⟨hG, hR, hA, hBV⟩ := rd_cells hV
  have HG := Lib.hid hG
  have HRs := Lib.hid hR
  have HA := Lib.hid hA
  have HBV := Lib.hid hBV
  have HW := Lib.hid hV
  have HX := Lib.hid (Below.refl V.heap.size V)
  have HI1 := Lib.hid fun y (h : Below V.heap.size V y) => hr1.below (hBV.trans (h.mono hBV.size))
  have HI2 := Lib.hid fun y (h : Below V.heap.size V y) => hr2.below (hBV.trans (h.mono hBV.size))
  have HI3 := Lib.hid fun y (h : Below V.heap.size V y) => hr3.below (hBV.trans (h.mono hBV.size))
  have HIc := Lib.hid (hrc.below hBV)
  have HIe := Lib.hid (hre.below hBV)
  have HIp := Lib.hid (hrp.below hBV)
  have HIn := Lib.hid (hrn.below hBV)
  have HN := Lib.hid hn
  have HF := Lib.hid hf
  have HBr := Lib.hid hbr
  have HDr := Lib.hid hdr
  have HRs' := Lib.hid hrs
  have HRo := Lib.hid hro
  obtain ⟨bm, hbm⟩ : ∃ b : ByteArray, b = listB ⟨#[109, 97, 105, 110]⟩ n1 z1 := ⟨_, rfl⟩
  obtain ⟨bb, hbb⟩ : ∃ b : ByteArray, b = someB ⟨#[98, 111, 110, 117, 115]⟩ n2 z2 := ⟨_, rfl⟩
  obtain ⟨be, hbe⟩ : ∃ b : ByteArray, b = someB ⟨#[101, 120, 116, 114, 97]⟩ n3 z3 := ⟨_, rfl⟩
  have TM : Hid (Tx bm (ln wMain (numsT n1 z1)) 1100) := Lib.hid (by rw [hbm]; exact Tx.nlist wMain n1 z1 (by decide) hn1 hr1.bds)
  have TB : Hid (Tx bb (someT wBonus n2 z2) 1100) := Lib.hid (by rw [hbb]; exact Tx.some wBonus n2 z2 (by decide) hn2 hr2.bds)
  have TE : Hid (Tx be (someT wExtra n3 z3) 1100) := Lib.hid (by rw [hbe]; exact Tx.some wExtra n3 z3 (by decide) hn3 hr3.bds)
  have EM := Lib.hid fun y (h : Below V.heap.size V y) => rList_any ⟨#[109, 97, 105, 110]⟩ a1 n1 c1 z1 y (by decide) (by omega) (HI1.out y h).1 (HI1.out y h).2
  have EB := Lib.hid fun y (h : Below V.heap.size V y) => rSome_any ⟨#[98, 111, 110, 117, 115]⟩ a2 n2 c2 z2 y (by decide) (by omega) (HI2.out y h)
  have EE := Lib.hid fun y (h : Below V.heap.size V y) => rSome_any ⟨#[101, 120, 116, 114, 97]⟩ a3 n3 c3 z3 y (by decide) (by omega) (HI3.out y h)
  rw [← hbm] at EM
  rw [← hbb] at EB
  rw [← hbe] at EE
  have zm := TM.out.size
  have zb := TB.out.size
  have ze' := TE.out.size
  have zi := (Tx.itB hn).size
  have hlV : w.heap.size < V.heap.size := by rw [hV]; simp; omega
  clear hbm hbb hbe hG hR hA hBV hV hr1 hr2 hr3 hrc hre hrp hrn hn hf hbr hdr hrs hro
  have q1 := qf (show 5 + gn.size ≤ _ by omega)
  have q2 := qf (show 5 + gn.size + 1 ≤ _ by omega)
  have q3 := qf (show 5 + gn.size + 1 + (itB n).size ≤ _ by omega)
  have q4 := qf (show 5 + gn.size + 1 + (itB n).size + 1 ≤ _ by omega)
  go_enter Tryd.func22, Tryd.ntmps22
  go_wp2
  rw [← HW.out]
  have g0 := fun x : Sub V.heap.size V => HG.out x.w x.h 0 _ rfl
  have F1 := Lib.hid fun x : Sub V.heap.size V => rFormat_any n x.w HN.out.1 HN.out.2
  refine wp_region_below (by kernel_rfl) (by kernel_rfl) ?_
  repeat (go_big_quiet_step (((go_at_call 32; (with_reducible exact Sub.ofB _ (Nat.le_refl _) (F1.out _))))))
  refine wpQuiet_nil ?_
  rintro w1 ⟨⟨_, hb⟩, rfl⟩
  replace HX := Lib.hid (HX.out.trans hb)
  clear hb g0 F1 q1 q2 q3 q4 zi
  obtain ⟨h1, e1⟩ : ∃ h : ByteArray, h = ((((⟨#[100, 114, 97, 119, 32]⟩ : ByteArray) ++ gn) ++ (⟨#[32]⟩ : ByteArray)) ++ itB n) ++ (⟨#[10]⟩ : ByteArray) := ⟨_, rfl⟩
  rw [← e1]
  have T1 : Hid (Tx h1 (headT gn.data.toList n) (gn.size + 40)) := Lib.hid (by
    rw [e1]
    exact (((((Tx.lit [100, 114, 97, 119, 32]).app (Tx.self gn)).app (Tx.lit [32])).app (Tx.itB HN.out)).app (Tx.lit [10])).cast (by unfold headT ln vals; simp [wDraw]) (by simp; omega))
  clear e1
  have z1' := T1.out.size
  go_wp2
  have q1 := qf (show h1.size + bm.size ≤ _ by omega)
  have q2 := qf (show h1.size + bm.size + bb.size ≤ _ by omega)
  have q3 := qf (show h1.size + bm.size + bb.size + be.size ≤ _ by omega)
  have g0 := fun x : Sub w1.heap.size w1 => HRs.out x.w (HX.out.trans (x.h.mono HX.out.size)) 0 _ rfl
  have g1 := fun x : Sub w1.heap.size w1 => HRs.out x.w (HX.out.trans (x.h.mono HX.out.size)) 1 _ rfl
  have g2 := fun x : Sub w1.heap.size w1 => HRs.out x.w (HX.out.trans (x.h.mono HX.out.size)) 2 _ rfl
  have F1 := Lib.hid fun x : Sub w1.heap.size w1 => EM.out x.w (HX.out.trans (x.h.mono HX.out.size))
  have F2 := Lib.hid fun x : Sub w1.heap.size w1 => EB.out x.w (HX.out.trans (x.h.mono HX.out.size))
  have F3 := Lib.hid fun x : Sub w1.heap.size w1 => EE.out x.w (HX.out.trans (x.h.mono HX.out.size))
  refine wp_region_below (by kernel_rfl) (by kernel_rfl) ?_
  repeat (go_big_quiet_step (((first | (go_at_call 29; (with_reducible exact Sub.ofB _ (Nat.le_refl _) (F1.out _))) | (go_at_call 36; first | (with_reducible exact Sub.ofB _ (Nat.le_refl _) (F2.out _)) | (with_reducible exact Sub.ofB _ (Nat.le_refl _) (F3.out _)))))))
  refine wpQuiet_nil ?_
  rintro w2 ⟨⟨_, hb⟩, rfl⟩
  replace HX := Lib.hid (HX.out.trans (hb.mono HX.out.size))
  clear hb g0 g1 g2 F1 F2 F3 q1 q2 q3
  obtain ⟨h2, e2⟩ : ∃ h : ByteArray, h = ((h1 ++ bm) ++ bb) ++ be := ⟨_, rfl⟩
  rw [← e2]
  have T2 : Hid (Tx h2 (headT gn.data.toList n ++ ln wMain (numsT n1 z1) ++ someT wBonus n2 z2 ++ someT wExtra n3 z3) (gn.size + 4000)) := Lib.hid (by
    rw [e2]
    exact (((T1.out.app TM.out).app TB.out).app TE.out).cast rfl (by omega))
  clear e2 zm zb ze' z1' EM EB EE
  have d3 := HRs.out _ HX.out 3 _ rfl
  go_upto_if 35 with fail
  go_cut [9] (fun v wx => DC V (headT gn.data.toList n ++ ln wMain (numsT n1 z1) ++ someT wBonus n2 z2 ++ someT wExtra n3 z3 ++ facT f) (gn.size + 6000) v wx)
  case first =>
    by_cases kf : f = 0
    · have kb : (f == 0) = true := by rw [beq_iff_eq]; exact kf
      have kc : (f != 0) = false := by rw [bne_eq_false_iff_eq]; exact kf
      have HE : Hid (facT f = []) := Lib.hid (if_pos kf)
      clear kf
      go_wp2
      go_meet
      exact ⟨_, rfl, T2.out.cast (by rw [HE.out, List.append_nil]) (by omega), HX.out⟩
    · have kb : (f == 0) = false := by rw [beq_eq_false_iff_ne]; exact kf
      have kc : (f != 0) = true := by rw [bne_iff_ne]; exact kf
      have HE : Hid (facT f = ln wFactor [Lib.itoa f]) := Lib.hid (if_neg kf)
      have TF : Hid (Tx (listB ⟨#[102, 97, 99, 116, 111, 114]⟩ 1 (fun _ => f)) (ln wFactor [Lib.itoa f]) 1100) := Lib.hid (Tx.nlist wFactor 1 (fun _ => f) (by decide) (by decide) (fun _ _ => HF.out))
      have zf := TF.out.size
      have z2' := T2.out.size
      have hl := HX.out.size
      clear kf
      go_wp2_with (go_at_call 29; (with_reducible refine (rList_any _ _ 1 1 (fun _ => f) _ (by decide) (by decide) (one_row0 _ _) (fun _ _ => HF.out)).mono ?_); rintro e w3 ⟨rfl, hb3⟩; have HX3 := Lib.hid ((HX.out.alloc hl _).trans (hb3.mono (by simp; omega))); clear hb3)
      go_meet
      exact ⟨_, rfl, (T2.out.app TF.out).cast (by rw [HE.out]) (by omega), HX3.out⟩
  case rest =>
    clear HX d3 T2
    obtain ⟨h3, rfl, t3, hx⟩ := hcut
    have T3 := Lib.hid t3
    have HX := Lib.hid hx
    clear t3 hx
    have d4 := HRs.out _ HX.out 4 _ rfl
    go_upto_if 44 with fail
    go_cut [9] (fun v wx => DC V (headT gn.data.toList n ++ resT n1 z1 n2 z2 n3 z3 f s.data.toList) (gn.size + s.size + 7000) v wx)
    case first =>
      rcases Nat.eq_zero_or_pos s.size with ks | ks
      · have HE : Hid (serT s.data.toList = []) := Lib.hid (by unfold serT; rw [empty_of ks]; rfl)
        have HQ := Lib.hid (show headT gn.data.toList n ++ ln wMain (numsT n1 z1) ++ someT wBonus n2 z2 ++ someT wExtra n3 z3 ++ facT f ++ serT s.data.toList = headT gn.data.toList n ++ resT n1 z1 n2 z2 n3 z3 f s.data.toList by unfold resT; simp)
        have kn : (!s.toList.isEmpty) = false := by rw [show s.toList = [] by rw [empty_of ks, ByteArray.toList_eq]; rfl]; rfl
        rw [kn]
        clear ks
        go_wp2
        go_meet
        exact ⟨_, rfl, T3.out.cast (by rw [← HQ.out, HE.out, List.append_nil]) (by omega), HX.out⟩
      · have HE : Hid (serT s.data.toList = ln wSerial [s.data.toList]) := Lib.hid (if_neg (resT_ne_nil ks))
        have HQ := Lib.hid (show headT gn.data.toList n ++ ln wMain (numsT n1 z1) ++ someT wBonus n2 z2 ++ someT wExtra n3 z3 ++ facT f ++ serT s.data.toList = headT gn.data.toList n ++ resT n1 z1 n2 z2 n3 z3 f s.data.toList by unfold resT; simp)
        have kse := isE_no ks
        have kn : (!s.toList.isEmpty) = true := by rw [kse]; rfl
        rw [kn]
        have z3' := T3.out.size
        go_wp2
        go_meet
        exact ⟨_, rfl, (((T3.out.app (Tx.lit [115, 101, 114, 105, 97, 108, 32])).app (Tx.self s)).app (Tx.lit [10])).cast (by rw [← HQ.out, HE.out]; unfold ln vals; simp [wSerial]) (by simp; omega), HX.out⟩
    case rest =>
      clear HX d4 T3
      obtain ⟨h4, rfl, t4, hx⟩ := hcut
      have T4 := Lib.hid t4
      have HX := Lib.hid hx
      clear t4 hx
      go_upto_block 0 with fail
      obtain ⟨mt, hmt⟩ : ∃ mt, mt = min (min nc ne) np := ⟨_, rfl⟩
      rw [← hmt]
      have hmc : mt ≤ nc := by omega
      have hme : mt ≤ ne := by omega
      have hmp : mt ≤ np := by omega
      have hmx : mt = nc ∨ mt = ne ∨ mt = np := by omega
      have HMT := Lib.hid hmt
      clear hmt
      go_cut [9] (fun v wx => DC V (headT gn.data.toList n ++ resT n1 z1 n2 z2 n3 z3 f s.data.toList ++ tierT zc ze zp mt) (gn.size + s.size + 7000 + 100 * mt) v wx)
      case first =>
        go_wp2_with fail
        go_loopw [9, 10] (fun vs vi wr => ∃ (k : Nat) (x : ByteArray), vs = .string x ∧ vi = .int .i64 k ∧ k ≤ mt ∧ Hid (Tx x (headT gn.data.toList n ++ resT n1 z1 n2 z2 n3 z3 f s.data.toList ++ tierT zc ze zp k) (gn.size + s.size + 7000 + 100 * k)) ∧ Below V.heap.size V wr) (fun _ vi _ => mt - (intOf vi).toNat)
        case atStart => exact ⟨0, _, rfl, rfl, by omega, Lib.hid (T4.out.cast (by simp [tierT]) (by omega)), HX.out⟩
        case round =>
          clear HX T4
          obtain ⟨k, x, rfl, rfl, hk, hT, hb⟩ := hrel
          have HXr := Lib.hid hb
          clear hb
          have m0 := HA.out wr HXr.out 0 _ rfl
          have m1 := HA.out wr HXr.out 1 _ rfl
          have m2 := HA.out wr HXr.out 2 _ rfl
          by_cases hlt : k < mt
          · obtain ⟨x0, x1⟩ := HIc.out.2 k (by omega)
            obtain ⟨y0, y1⟩ := HIe.out.2 k (by omega)
            obtain ⟨u0, u1⟩ := HIp.out.2 k (by omega)
            rcases HIc.out.1 with h0 | ⟨b1, o1, ha1, hb1, _, hcc⟩
            · omega
            rcases HIe.out.1 with h0 | ⟨b2, o2, ha2, hb2, _, hce⟩
            · omega
            rcases HIp.out.1 with h0 | ⟨b3, o3, ha3, hb3, _, hcp⟩
            · omega
            subst ha1 ha2 ha3
            have i1 : (k : Int) < (nc : Int) := by omega
            have i2 : (k : Int) < (ne : Int) := by omega
            have i3 : (k : Int) < (np : Int) := by omega
            have i4 : (0 : Int) ≤ (k : Int) := by omega
            have i5 : k < nc := by omega
            have i6 : k < ne := by omega
            have i7 : k < np := by omega
            have i8 : (k : Int) ≤ 50 := by omega
            have t1 := hT.out.size
            have t2 := (Tx.itB (show I64 (k : Int) by unfold I64; omega)).size
            have t3 := (Tx.itB (show I64 (zc k) from ⟨x0, x1⟩)).size
            have t4 := (Tx.amB (ze k)).size
            have t5 := (Tx.amB (zp k)).size
            have HNx : Hid (Tx (((((((((x ++ (⟨#[116, 105, 101, 114, 32]⟩ : ByteArray)) ++ itB (k : Int)) ++ (⟨#[32]⟩ : ByteArray)) ++ itB (zc k)) ++ (⟨#[32]⟩ : ByteArray)) ++ amB8 (ze k)) ++ (⟨#[32]⟩ : ByteArray)) ++ amB8 (zp k)) ++ (⟨#[10]⟩ : ByteArray)) (headT gn.data.toList n ++ resT n1 z1 n2 z2 n3 z3 f s.data.toList ++ tierT zc ze zp (k + 1)) (gn.size + s.size + 7000 + 100 * (k + 1))) := Lib.hid
              ((((((((((hT.out.app (Tx.lit [116, 105, 101, 114, 32])).app (Tx.itB (show I64 (k : Int) by unfold I64; omega))).app (Tx.lit [32])).app (Tx.itB (show I64 (zc k) from ⟨x0, x1⟩))).app (Tx.lit [32])).app (Tx.amB (ze k))).app (Tx.lit [32])).app (Tx.amB (zp k))).app (Tx.lit [10])).cast (by simp only [tierT]; unfold ln vals; simp [wTier]) (by simp only [List.length_cons, List.length_nil]; omega))
            have q1 := qf (show x.size + 5 ≤ _ by omega)
            have q2 := qf (show x.size + 5 + (itB (k : Int)).size ≤ _ by omega)
            have q3 := qf (show x.size + 5 + (itB (k : Int)).size + 1 ≤ _ by omega)
            have q4 := qf (show x.size + 5 + (itB (k : Int)).size + 1 + (itB (zc k)).size ≤ _ by omega)
            have q5 := qf (show x.size + 5 + (itB (k : Int)).size + 1 + (itB (zc k)).size + 1 ≤ _ by omega)
            have q6 := qf (show x.size + 5 + (itB (k : Int)).size + 1 + (itB (zc k)).size + 1 + (amB8 (ze k)).size ≤ _ by omega)
            have q7 := qf (show x.size + 5 + (itB (k : Int)).size + 1 + (itB (zc k)).size + 1 + (amB8 (ze k)).size + 1 ≤ _ by omega)
            have q8 := qf (show x.size + 5 + (itB (k : Int)).size + 1 + (itB (zc k)).size + 1 + (amB8 (ze k)).size + 1 + (amB8 (zp k)).size ≤ _ by omega)
            have q9 := qf (show x.size + 5 + (itB (k : Int)).size + 1 + (itB (zc k)).size + 1 + (amB8 (ze k)).size + 1 + (amB8 (zp k)).size + 1 ≤ _ by omega)
            have F1 := Lib.hid fun y : Sub wr.heap.size wr => rFormat_any (k : Int) y.w (by omega) (by omega)
            have F2 := Lib.hid fun y : Sub wr.heap.size wr => rFormat_any (zc k) y.w x0 x1
            have F3 := Lib.hid fun y : Sub wr.heap.size wr => rAmount_any (ze k) y.w y0 y1
            have F4 := Lib.hid fun y : Sub wr.heap.size wr => rAmount_any (zp k) y.w u0 u1
            have g0 := fun y : Sub wr.heap.size wr => HA.out y.w (HXr.out.trans (y.h.mono HXr.out.size)) 0 _ rfl
            have g1 := fun y : Sub wr.heap.size wr => HA.out y.w (HXr.out.trans (y.h.mono HXr.out.size)) 1 _ rfl
            have g2 := fun y : Sub wr.heap.size wr => HA.out y.w (HXr.out.trans (y.h.mono HXr.out.size)) 2 _ rfl
            have g3 : ∀ y : Sub wr.heap.size wr, y.w.cell? ⟨b1, o1 + k, none⟩ = some (.int .i64 (zc k)) := fun y => ((HXr.out.trans (y.h.mono HXr.out.size)).cell (p := ⟨b1, o1 + k, none⟩) hb1).trans (hcc k i5)
            have g4 : ∀ y : Sub wr.heap.size wr, y.w.cell? ⟨b2, o2 + k, none⟩ = some (.int .i64 (ze k)) := fun y => ((HXr.out.trans (y.h.mono HXr.out.size)).cell (p := ⟨b2, o2 + k, none⟩) hb2).trans (hce k i6)
            have g5 : ∀ y : Sub wr.heap.size wr, y.w.cell? ⟨b3, o3 + k, none⟩ = some (.int .i64 (zp k)) := fun y => ((HXr.out.trans (y.h.mono HXr.out.size)).cell (p := ⟨b3, o3 + k, none⟩) hb3).trans (hcp k i7)
            clear hcc hce hcp t1 t2 t3 t4 t5
            go_wp2
            refine wp_region_below (by kernel_rfl) (by kernel_rfl) ?_
            repeat (go_big_quiet_step (((first | (go_at_call 32; first | (with_reducible exact Sub.ofB _ (Nat.le_refl _) (F1.out _)) | (with_reducible exact Sub.ofB _ (Nat.le_refl _) (F2.out _))) | (go_at_call 33; first | (with_reducible exact Sub.ofB _ (Nat.le_refl _) (F3.out _)) | (with_reducible exact Sub.ofB _ (Nat.le_refl _) (F4.out _)))))))
            refine wpQuiet_nil ?_
            rintro w2 ⟨⟨_, hb2⟩, rfl⟩
            replace HXr := Lib.hid (HXr.out.trans (hb2.mono HXr.out.size))
            clear q1 q2 q3 q4 q5 q6 q7 q8 q9 F1 F2 F3 F4 g0 g1 g2 g3 g4 g5 hb2
            go_wp2
            go_roundw
            case rel => exact ⟨k + 1, _, rfl, by go_num, hlt, HNx, HXr.out⟩
            case measure => simp [intOf]; omega
          · obtain rfl : k = mt := by omega
            have HZ := Lib.hid (show DC V (headT gn.data.toList n ++ resT n1 z1 n2 z2 n3 z3 f s.data.toList ++ tierT zc ze zp k) (gn.size + s.size + 7000 + 100 * k) (.string x) wr from ⟨_, rfl, hT.out, HXr.out⟩)
            by_cases j1 : k = nc
            · have j2 : (nc : Int) ≤ (k : Int) := by omega
              clear j1 hmx
              go_wp2
              go_meet
              exact HZ.out
            · have j1' : (k : Int) < (nc : Int) := by omega
              by_cases j3 : k = ne
              · have j4 : (ne : Int) ≤ (k : Int) := by omega
                clear j1 j3 hmx
                go_wp2
                go_meet
                exact HZ.out
              · have j3' : (k : Int) < (ne : Int) := by omega
                have j5 : (np : Int) ≤ (k : Int) := by omega
                clear j1 j3 hmx
                go_wp2
                go_meet
                exact HZ.out
      case rest =>
        clear HX T4
        obtain ⟨h5, rfl, t5, hx⟩ := hcut
        have T5 := Lib.hid t5
        have HX := Lib.hid hx
        clear t5 hx
        obtain ⟨bbr, hbbr⟩ : ∃ b : ByteArray, b = sumB ⟨#[98, 114, 101, 97, 107, 97, 103, 101]⟩ br := ⟨_, rfl⟩
        obtain ⟨bdr, hbdr⟩ : ∃ b : ByteArray, b = sumB ⟨#[100, 114, 97, 119, 110]⟩ dr := ⟨_, rfl⟩
        obtain ⟨brs, hbrs⟩ : ∃ b : ByteArray, b = sumB ⟨#[114, 101, 115, 101, 114, 118, 101]⟩ rs := ⟨_, rfl⟩
        obtain ⟨bro, hbro⟩ : ∃ b : ByteArray, b = listB ⟨#[114, 111, 108, 108, 115]⟩ 1 (fun _ => ro) := ⟨_, rfl⟩
        have TBr : Hid (Tx bbr (ln wBrk [amT br]) 60) := Lib.hid (by rw [hbbr]; exact Tx.sum wBrk br (by decide))
        have TDr : Hid (Tx bdr (ln wDrawn [amT dr]) 60) := Lib.hid (by rw [hbdr]; exact Tx.sum wDrawn dr (by decide))
        have TRs : Hid (Tx brs (ln wResv [amT rs]) 60) := Lib.hid (by rw [hbrs]; exact Tx.sum wResv rs (by decide))
        have TRo : Hid (Tx bro (ln wRolls [Lib.itoa ro]) 1100) := Lib.hid (by rw [hbro]; exact Tx.nlist wRolls 1 (fun _ => ro) (by decide) (by decide) (fun _ _ => HRo.out))
        have EBr := Lib.hid fun y => rSum_any ⟨#[98, 114, 101, 97, 107, 97, 103, 101]⟩ br y (by decide) HBr.out.1 HBr.out.2
        have EDr := Lib.hid fun y => rSum_any ⟨#[100, 114, 97, 119, 110]⟩ dr y (by decide) HDr.out.1 HDr.out.2
        have ERs := Lib.hid fun y => rSum_any ⟨#[114, 101, 115, 101, 114, 118, 101]⟩ rs y (by decide) HRs'.out.1 HRs'.out.2
        have ERo := Lib.hid fun y a (h : IsRow y a 1 (fun _ => ro)) => rList_any ⟨#[114, 111, 108, 108, 115]⟩ a 1 1 (fun _ => ro) y (by decide) (by decide) h (fun _ _ => HRo.out)
        rw [← hbbr] at EBr
        rw [← hbdr] at EDr
        rw [← hbrs] at ERs
        rw [← hbro] at ERo
        clear hbbr hbdr hbrs hbro
        have t5 := T5.out.size
        have t6 := TBr.out.size
        have t7 := TDr.out.size
        have hmt50 : mt ≤ 50 := by omega
        have q1 := qf (show h5.size + bbr.size ≤ _ by omega)
        have q2 := qf (show h5.size + bbr.size + bdr.size ≤ _ by omega)
        have q3 := qf (show h5.size + bbr.size + bdr.size + 5 ≤ _ by omega)
        go_wp2
        obtain ⟨w5, hw5⟩ : ∃ w5 : World, w5 = wc := ⟨_, rfl⟩
        subst hw5
        have g3 := fun y : Sub w5.heap.size w5 => HA.out y.w (HX.out.trans (y.h.mono HX.out.size)) 3 _ rfl
        have g4 := fun y : Sub w5.heap.size w5 => HA.out y.w (HX.out.trans (y.h.mono HX.out.size)) 4 _ rfl
        have F1 := Lib.hid fun y : Sub w5.heap.size w5 => EBr.out y.w
        have F2 := Lib.hid fun y : Sub w5.heap.size w5 => EDr.out y.w
        refine wp_region_below (by kernel_rfl) (by kernel_rfl) ?_
        repeat (go_big_quiet_step (((go_at_call 30; first | (with_reducible exact Sub.ofB _ (Nat.le_refl _) (F1.out _)) | (with_reducible exact Sub.ofB _ (Nat.le_refl _) (F2.out _))))))
        refine wpQuiet_nil ?_
        rintro w6 ⟨⟨_, hb6⟩, rfl⟩
        replace HX := Lib.hid (HX.out.trans (hb6.mono HX.out.size))
        clear hb6 g3 g4 F1 F2 q1 q2 q3 t5 t6 t7
        obtain ⟨h6, e6⟩ : ∃ h : ByteArray, h = ((h5 ++ bbr) ++ bdr) ++ (⟨#[99, 97, 114, 114, 121]⟩ : ByteArray) := ⟨_, rfl⟩
        rw [← e6]
        have T6 : Hid (Tx h6 (headT gn.data.toList n ++ resT n1 z1 n2 z2 n3 z3 f s.data.toList ++ tierT zc ze zp mt ++ ln wBrk [amT br] ++ ln wDrawn [amT dr] ++ (wCarry ++ vals (amsT 0 zn))) (gn.size + s.size + 13000 + 20 * 0)) := Lib.hid (by
          rw [e6]
          exact (((T5.out.app TBr.out).app TDr.out).app (Tx.lit [99, 97, 114, 114, 121])).cast (by simp [amsT, vals, wCarry]) (by simp only [List.length_cons, List.length_nil]; omega))
        clear e6 T5 EBr EDr
        go_wp2
        go_loopw [9, 11] (fun vs vi wr => ∃ (k : Nat) (x : ByteArray), vs = .string x ∧ vi = .int .i64 k ∧ k ≤ nn ∧ Hid (Tx x (headT gn.data.toList n ++ resT n1 z1 n2 z2 n3 z3 f s.data.toList ++ tierT zc ze zp mt ++ ln wBrk [amT br] ++ ln wDrawn [amT dr] ++ (wCarry ++ vals (amsT k zn))) (gn.size + s.size + 13000 + 20 * k)) ∧ Below V.heap.size V wr) (fun _ vi _ => nn - (intOf vi).toNat)
        case atStart => exact ⟨0, _, rfl, rfl, by omega, T6, HX.out⟩
        case round =>
          clear HX T6
          obtain ⟨k, x, rfl, rfl, hk, hT, hb⟩ := hrel
          have HXr := Lib.hid hb
          clear hb
          have m5 := HA.out wr HXr.out 5 _ rfl
          have hl := HXr.out.size
          by_cases hlt : k < nn
          · obtain ⟨x0, x1⟩ := HIn.out.2 k hlt
            rcases HIn.out.1 with h0 | ⟨b1, o1, ha1, hb1, _, hcc⟩
            · omega
            subst ha1
            have c0 := (HXr.out.cell (p := ⟨b1, o1 + k, none⟩) hb1).trans (hcc k hlt)
            have t1 := hT.out.size
            have t2 := (Tx.amB (zn k)).size
            have HNx : Hid (Tx ((x ++ (⟨#[32]⟩ : ByteArray)) ++ amB8 (zn k)) (headT gn.data.toList n ++ resT n1 z1 n2 z2 n3 z3 f s.data.toList ++ tierT zc ze zp mt ++ ln wBrk [amT br] ++ ln wDrawn [amT dr] ++ (wCarry ++ vals (amsT (k + 1) zn))) (gn.size + s.size + 13000 + 20 * (k + 1))) := Lib.hid
              (((hT.out.app (Tx.lit [32])).app (Tx.amB (zn k))).cast (by rw [show amsT (k + 1) zn = amsT k zn ++ [amT (zn k)] by simp [amsT, List.range_succ], vals_snoc]; simp) (by simp only [List.length_cons, List.length_nil]; omega))
            have F1 := Lib.hid (rAmount_any (zn k) wr x0 x1)
            clear hcc
            go_wp2_with (go_at_call 33; (with_reducible refine F1.out.mono ?_); rintro e w9 ⟨rfl, hb9⟩; replace HXr := Lib.hid (HXr.out.trans (hb9.mono hl)); clear hb9)
            go_roundw
            case rel => exact ⟨k + 1, _, rfl, by go_num, hlt, HNx, HXr.out⟩
            case measure => simp [intOf]; omega
          · obtain rfl : k = nn := by omega
            have t1 := hT.out.size
            have t2 := TRs.out.size
            have t3 := TRo.out.size
            have q1 := qf (show x.size + 1 ≤ _ by omega)
            have q2 := qf (show x.size + 1 + brs.size ≤ _ by omega)
            have q3 := qf (show x.size + 1 + brs.size + bro.size ≤ _ by omega)
            have HFin : Hid (((x ++ (⟨#[10]⟩ : ByteArray)) ++ brs) ++ bro = ⟨(drwT gn.data.toList n n1 z1 n2 z2 n3 z3 f s.data.toList mt zc ze zp br dr k zn rs ro).toArray⟩) := Lib.hid (bytes_of (by
              rw [(((hT.out.app (Tx.lit [10])).app TRs.out).app TRo.out).list]
              unfold drwT tailT
              simp only [ln, List.append_assoc]))
            have m6 := HA.out wr HXr.out 6 _ rfl
            have m7 := HA.out wr HXr.out 7 _ rfl
            have HQ := Lib.hid fun y (h : Below V.heap.size V y) => (⟨HA.out y h 6 _ rfl, HA.out y h 7 _ rfl⟩ : y.cell? ⟨w.heap.size + 1 + 1, 6, none⟩ = some (.int .i64 rs) ∧ y.cell? ⟨w.heap.size + 1 + 1, 7, none⟩ = some (.int .i64 ro))
            clear t1 t2 t3
            go_wp2
            go_region_held3 (fun w' => w'.cell? ⟨w.heap.size + 1 + 1, 6, none⟩ = some (.int .i64 rs) ∧ w'.cell? ⟨w.heap.size + 1 + 1, 7, none⟩ = some (.int .i64 ro))
              (first | exact HQ.out _ HX8.out | exact HQ.out _ HX9.out | go_keep)
              (first
                | (go_at_call 30; (with_reducible refine (ERs.out _).mono ?_); rintro e w9 ⟨rfl, hb9⟩; first
                  | (have HX9 := Lib.hid (HXr.out.drew.trans (hb9.mono hl)))
                  | (have HX9 := Lib.hid (((HXr.out.alloc hl _).drew).trans (hb9.mono (by simp; omega))); have HRow := Lib.hid ((one_row wr ro _ rfl).below hb9 (Nat.le_refl _))))
                | (go_at_call 29; first
                  | (with_reducible refine (ERo.out _ _ (one_row0 _ _)).mono ?_); rintro e w8 ⟨rfl, hb8⟩; have HX8 := Lib.hid ((HX9.out.alloc HX9.out.size _).trans (hb8.mono (by have := HX9.out.size; simp; omega)))
                  | (with_reducible refine (ERo.out _ _ HRow.out).mono ?_); rintro e w8 ⟨rfl, hb8⟩; have HX8 := Lib.hid (HX9.out.trans (hb8.mono HX9.out.size))))
            all_goals
              go_wp2
              go_ret
              exact ⟨ret_str (by first | exact HFin.out | (rw [← HMT.out]; exact HFin.out)), HBV.out.trans (HX8.out.mono HBV.out.size)⟩
end Go.Proofs.YtgmilhhifigkkaaDoor
