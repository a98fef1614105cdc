/- The reference's split: the whole. -/
import Derived.Test.YtkpmbkkhdhjbnaaMop
namespace Go.Lott.Spl
theorem sok_of {m : Int} {n : Nat} {ws : Nat → Int} (h : splE m n ws = 0) : SOk m ws n := by
  by_cases h1 : 0 ≤ m ∧ m ≤ 1000000000000
  · by_cases h2 : n = 0 ∨ 64 < n
    · rw [splE_len h1 h2] at h; omega
    · by_cases h3 : ∀ i, i < n → 0 ≤ ws i ∧ ws i ≤ 1000000000000
      · by_cases h4 : sm ws n = 0
        · rw [splE_zero h1 h2 h3 h4] at h; omega
        · have := sm_nonneg (f := ws) (n := n) (fun k hk => (h3 k hk).1)
          exact ⟨h1.1, h1.2, by omega, by omega, h3, by omega⟩
      · exfalso
        refine h3 fun i hi => ?_
        by_cases c : 0 ≤ ws i ∧ ws i ≤ 1000000000000
        · exact c
        · rw [splE_w h1 h2 hi c] at h; omega
  · rw [splE_am h1] at h; omega
end Go.Lott.Spl
namespace Go.Proofs.Ytkpmbkkhdhjbnaa
open Go.ChangeShapes Go.WideShapes Go.ChangeAt Go.RowKit Go.Lott
open Go.Lott.Spl

theorem own_lt {w : World} {base : Nat} {e : TypeId} {size : Nat} {v : Value} {n : Nat} {xs : List Value} (h : w.ownsRow base e size v n xs) : ∀ k, v.ownBlock = some k → k < w.heap.size := by
  intro k hk
  rcases h.2 with ⟨rfl, _⟩ | ⟨g, cap, cur, hv, _, hg, _⟩
  · cases hk
  · subst hv; cases hk; exact lt_of_block hg
set_option maxHeartbeats 4000000 in
set_option maxRecDepth 100000 in
theorem rSplit_any (m : Int) (a : Option Addr) (n cap : Nat) (ws : Nat → Int) (w : World) (hr : IsRow w a n ws) (hn : n ≤ maxLen) :
    Calls Try.prog 38 #[.int .i64 m, .slice a n cap] w (SplPost m n ws w) := by
  have hc := fun w h => rChk_any m a n cap ws w h hn
  have HR := Lib.hid hr
  clear hr
  by_cases he : splE m n ws = 0
  · have HK := Lib.hid (sok_of he)
    have hv : chkV m n ws = Spl.sm ws n := by unfold chkV; rw [if_pos he]
    rw [he, hv] at hc
    have HC := Lib.hid hc
    have m0 := HK.out.m0
    have m1 := HK.out.m1
    have n1 := HK.out.n1
    have n2 := HK.out.n2
    clear hc he hv hn
    obtain ⟨b, o, rfl, hb, _, hcl⟩ : ∃ b o, a = some ⟨b, o, none⟩ ∧ b < w.heap.size ∧ n ≤ maxLen ∧ ∀ i, i < n → w.cell? ⟨b, o + i, none⟩ = some (.int .i64 (ws i)) := by
      rcases HR.out with h | h
      · omega
      · exact h
    have HCL := Lib.hid hcl
    clear hcl
    obtain ⟨i0, hi, hz0, hz1, hz2⟩ := info_parts info3
    obtain ⟨od, hod⟩ := ord_exists (rv m (Spl.sm ws n) ws) n n1
    have HOD := Lib.hid hod
    clear hod
    obtain ⟨lf0, lf1⟩ := HK.out.left
    go_enter Try.func38, Try.ntmps38
    go_wp2_with (go_at_call 56; refine (HC.out _ HR.out).mono ?_; rintro e w' ⟨rfl, rfl⟩)
    go_loopw [8, 9, 10, 11] (fun vp vr vl vi wr => ∃ (j : Nat) (v8 v9 : Value), v8 = vp ∧ v9 = vr ∧ vi = .int .i64 j ∧ j ≤ n ∧ vl = .int .i64 (m - Spl.sm (qv m (Spl.sm ws n) ws) j) ∧ wr.ownsRow w.heap.size 3 1 v8 j (fl j (qv m (Spl.sm ws n) ws)) ∧ wr.ownsRow w.heap.size 3 1 v9 j (fl j (rv m (Spl.sm ws n) ws)) ∧
      (∀ g, v8.ownBlock = some g → v9.ownBlock ≠ some g) ∧ Below w.heap.size w wr) (fun _ _ _ vi _ => n - (intOf vi).toNat)
    case atStart => exact ⟨0, .slice none 0 0, .slice none 0 0, rfl, rfl, rfl, by omega, by simp [Spl.sm], ⟨rfl, .inl ⟨rfl, rfl⟩⟩, ⟨rfl, .inl ⟨rfl, rfl⟩⟩, (fun g h => by cases h), Below.refl _ _⟩
    case round =>
      obtain ⟨j, v8, v9, rfl, rfl, rfl, hj, rfl, o8, o9, hne, hbel⟩ := hrel
      have O8 := Lib.hid o8
      have O9 := Lib.hid o9
      have HNE := Lib.hid hne
      have hbs := hbel.size
      clear o8 o9 hne
      by_cases hjn : j < n
      · have cw : wr.cell? ⟨b, o + j, none⟩ = some (.int .i64 (ws j)) := (hbel.cell (p := ⟨b, _, none⟩) hb).trans (HCL.out j hjn)
        obtain ⟨q0, q1, r0, r1, _⟩ := HK.out.q hjn
        obtain ⟨wj0, wj1⟩ := HK.out.wv j hjn
        have ht := HK.out.tle
        have htl := HK.out.t1
        obtain ⟨p0, p1⟩ := HK.out.part hj
        obtain ⟨p2, p3⟩ := HK.out.part (show j + 1 ≤ n by omega)
        have hps : Spl.sm (qv m (Spl.sm ws n) ws) (j + 1) = Spl.sm (qv m (Spl.sm ws n) ws) j + qv m (Spl.sm ws n) ws j := rfl
        have hmd := fun w => rMulDiv_any m (ws j) (Spl.sm ws n) w (by omega) (by omega) (by omega) (by omega) (by omega) (by omega)
        obtain ⟨e1, e2, e3⟩ := md_fine (a := m) (b := ws j) (c := Spl.sm ws n) ⟨m0, wj0, htl⟩ (show m * ws j / Spl.sm ws n ≤ _ from (by have : m * ws j / Spl.sm ws n ≤ m := q1; omega))
        unfold mdV at hmd
        rw [← e1, ← e2, ← e3] at hmd
        have HMD : Hid (∀ w, Calls Try.prog 32 #[.int .i64 m, .int .i64 (ws j), .int .i64 (Spl.sm ws n)] w (RetS (.tuple #[.int .i64 (qv m (Spl.sm ws n) ws j), .int .i64 (rv m (Spl.sm ws n) ws j), .int .i64 0]) w)) := Lib.hid hmd
        clear hmd e1 e2 e3
        rw [hps] at p2 p3
        have HPS := Lib.hid hps
        clear hps
        have HF8 := Lib.hid (fl_succ j (qv m (Spl.sm ws n) ws))
        have HF9 := Lib.hid (fl_succ j (rv m (Spl.sm ws n) ws))
        generalize qv m (Spl.sm ws n) ws j = q at *
        generalize rv m (Spl.sm ws n) ws j = r at *
        have tok1 : True := trivial
        have tok2 : True := trivial
        go_wp2_with (first
          | (go_at_call 32; ((with_reducible refine (HMD.out _).mono ?_); rintro e w' ⟨rfl, rfl⟩))
          | (at_builtin; have _t := tok1; refine wpList_append_lies _ rfl _ _ 22 rfl w.heap.size 3 i0 (.int .i64 0) 1 8 Try.underlying22 hi hz0 hz1 hz2 rfl (by decide) v8 j (fl j (qv m (Spl.sm ws n) ws)) (by rfl) (O8.out.alloc _) ⟨wr.heap.size, 0, none⟩ 1 1 [.int .i64 q] (by rfl) (by rfl) (World.news_of_block (cs := #[.int .i64 q]) (t := 3) (fr := (0, 0)) (heap_alloc_new wr _)) (by simp [Value.oneCell']) (by omega) (by unfold maxLen; omega) (by omega) (by simp; omega) (wr.heap.size + 1) (by simp) ?_; intro g8 c8 w1 own8 gr8 at8 lt8; clear tok1)
          | (at_builtin; have _t := tok2; refine wpList_append_lies _ rfl _ _ 22 rfl w.heap.size 3 i0 (.int .i64 0) 1 8 Try.underlying22 hi hz0 hz1 hz2 rfl (by decide) v9 j (fl j (rv m (Spl.sm ws n) ws)) (by rfl) (((O9.out.alloc _).kept gr8 (by cases hc : v9.ownBlock with | none => exact .inl rfl | some x => exact .inr (fun h => HNE.out x h.symm hc))).alloc _) ⟨w1.heap.size, 0, none⟩ 1 1 [.int .i64 r] (by rfl) (by rfl) (World.news_of_block (cs := #[.int .i64 r]) (t := 3) (fr := (0, 0)) (heap_alloc_new w1 _)) (by simp [Value.oneCell']) (by omega) (by unfold maxLen; omega) (by omega) (by have := lt8; have := own_ge own8 g8 rfl; simp; omega) (w1.heap.size + 1) (by simp) ?_; intro g9 c9 w2 own9 gr9 at9 lt9; clear tok2))
        have hb1 := (hbel.alloc hbs (.cells #[.int .i64 q] 3)).grown gr8 (by simp; omega) (own_ge O8.out)
        have hb2 := (hb1.alloc hb1.size (.cells #[.int .i64 r] 3)).grown gr9 (by simp; have := hb1.size; omega) (own_ge O9.out)
        have hg89 : g8 ≠ g9 := by
          intro e
          subst e
          rcases at8 with h8 | h8 <;> rcases at9 with h9 | h9
          · exact HNE.out g8 h8 h9
          · omega
          · have := own_lt O9.out g8 h9; omega
          · omega
        have O8' := (own8.alloc (.cells #[.int .i64 r] 3)).kept gr9 (.inr fun h => by
          have h : some g8 = v9.ownBlock := h
          rcases at8 with h8 | h8
          · exact HNE.out g8 h8 h.symm
          · have := own_lt O9.out g8 h.symm; omega)
        rw [← HF8.out] at O8'
        rw [← HF9.out] at own9
        have H8 := Lib.hid O8'
        have H9 := Lib.hid own9
        clear O8' own8 own9 gr8 gr9 at8 at9 lt8 lt9
        go_roundw
        case rel => exact ⟨j + 1, _, _, rfl, rfl, by go_num, hjn, by rw [HPS.out]; congr 1; omega, H8.out, H9.out, fun g h h' => by
          have h : some g8 = some g := h
          have h' : some g9 = some g := h'
          exact hg89 (Option.some.inj (h.trans h'.symm)), hb2⟩
        case measure => simp [intOf]; omega
      · obtain rfl : j = n := by omega
        obtain ⟨g8, c8, rfl, hg8, hl8⟩ := O8.out.form (by omega)
        obtain ⟨g9, c9, rfl, hg9, hl9⟩ := O9.out.form (by omega)
        have hg89 : g8 ≠ g9 := fun e => HNE.out g8 rfl (by rw [e]; rfl)
        have HP := Lib.hid (rw_of_owns O8.out)
        have HQ := Lib.hid (rw_of_owns O9.out)
        have HL := Lib.hid (show m - Spl.sm (qv m (Spl.sm ws j) ws) j = lf m ws j from rfl)
        clear HC HCL
        go_wp2
        go_loopw [10] (fun vl w3 => ∃ x : Nat, vl = .int .i64 (lf m ws j - x) ∧ (x : Int) ≤ lf m ws j ∧ Rw w3 g8 j (fun i => qv m (Spl.sm ws j) ws i + pick od x i) 3 ∧ Rw w3 g9 j (rst (rv m (Spl.sm ws j) ws) od x) 3 ∧ Below w.heap.size w w3) (fun vl _ => (intOf vl).toNat)
        case atStart => exact ⟨0, by rw [HL.out]; congr 1; omega, by omega, HP.out.congr (fun k _ => by rw [pick_zero]; omega), HQ.out.congr (fun k _ => by unfold rst; simp), hbel⟩
        case round =>
          obtain ⟨x, rfl, hx, hP, hQ, hb3⟩ := hrel
          have HP3 := Lib.hid hP
          have HQ3 := Lib.hid hQ
          clear hP hQ
          have hbs3 := hb3.size
          have hodl := HOD.out.length
          by_cases hxl : (x : Int) < lf m ws j
          · have hxo : x < od.length := by omega
            have hz : gr (rst (rv m (Spl.sm ws j) ws) od x) j = od[x] := gr_next HOD.out (fun k hk => (HK.out.q hk).2.2.1) hxo
            have hg := fun w h => greatest_any g9 j c9 (rst (rv m (Spl.sm ws j) ws) od x) 3 w h n1 (by omega)
            rw [hz] at hg
            have hyn := HOD.out.get hxo
            have hpk := pick_succ HOD.out.nodup hxo
            have hrs := rst_next (R := rv m (Spl.sm ws j) ws) hxo
            generalize od[x] = y at *
            have HG := Lib.hid hg
            have HPK := Lib.hid hpk
            have HRS := Lib.hid hrs
            clear hg hz hpk hrs
            obtain ⟨q0, q1, _⟩ := HK.out.q hyn
            obtain ⟨k0, k1⟩ := pick_bd od x y
            have y0 : (0 : Int) ≤ (y : Int) := by omega
            have y1 : (y : Int) < (j : Int) := by omega
            have hl0 : 0 < lf m ws j - (x : Int) := by omega
            go_wp2_with (go_at_call 57; ((with_reducible refine (HG.out _ HQ3.out).mono ?_); rintro e w4 ⟨rfl, hb4⟩; have P4 := HP3.out.below hb4 HP3.out.lt; have cP := P4.at hyn; have fP := P4.free y; have Q4 := (HQ3.out.below hb4 HQ3.out.lt).other (a := ⟨g8, y, none⟩) (fun e => hg89 e.symm) (.int .i64 (qv m (Spl.sm ws j) ws y + pick od x y + 1)); have cQ := Q4.at hyn; have fQ := Q4.free y; have HP4 := Lib.hid P4; have HQ4 := Lib.hid Q4; have HB4 := Lib.hid hb4; clear P4 Q4 hb4))
            go_roundw
            case rel => exact ⟨x + 1, by congr 1; push_cast; omega, by push_cast; omega, ((HP4.out.put y _).other (a := ⟨g9, y, none⟩) hg89 _).congr (fun k _ => by
                show (if k = y then _ else _) = _
                rw [HPK.out]
                by_cases c : k = y
                · subst c; rw [if_pos rfl, if_pos rfl]; omega
                · rw [if_neg c, if_neg c]; omega), (HQ4.out.put y _).congr (fun k _ => HRS.out k), ((hb3.trans (HB4.out.mono hbs3)).setCell hg8 _).setCell hg9 _⟩
            case measure => simp [intOf]; omega
          · obtain ⟨hx0, hx1⟩ : lf m ws j - (x : Int) = 0 ∧ (lf m ws j).toNat = x := by omega
            rw [hx0]
            go_wp2
            go_ret2
            exact ⟨hb3, .inl ⟨HK.out, g8, c8, _, rfl, IsRow.of_rw HP3.out (by unfold maxLen; omega), ⟨od, HOD.out, fun i hi => by rw [hx1]⟩⟩⟩
  · have hv : chkV m n ws = 0 := by unfold chkV; rw [if_neg he]
    rw [hv] at hc
    have HE := Lib.hid he
    have he1 : (splE m n ws != 0) = true := by rw [bne_iff_ne]; exact he
    have HC := Lib.hid hc
    clear hc he hv
    go_enter Try.func38, Try.ntmps38
    go_wp2_with (go_at_call 56; refine (HC.out _ HR.out).mono ?_; rintro e w' ⟨rfl, rfl⟩)
    go_ret2
    exact ⟨Below.refl _ _, .inr ⟨HE.out, rfl⟩⟩
end Go.Proofs.Ytkpmbkkhdhjbnaa
