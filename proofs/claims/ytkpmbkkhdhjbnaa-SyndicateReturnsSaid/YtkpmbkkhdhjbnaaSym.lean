/- The laws SyndicateChecks, SyndicateTransfers: their walks. -/
import Derived.Test.YtkpmbkkhdhjbnaaSyl
namespace Go.Proofs.Ytkpmbkkhdhjbnaa
open Go.ChangeShapes Go.WideShapes Go.ChangeAt Go.RowKit Go.Lott
open Go.Lott.Syn Go.Lott.Spl
theorem co_ok {m : Int} {a : Option Addr} {n cap : Nat} {z : Nat → Nat → Int} (hv : dvE m n z = 0) (h : ∀ w, IsRows 2 w a n z → Calls Try.prog 23 #[.int .i64 m, .slice a n cap] w (DvPost m n z w)) (w : World) (hr : IsRows 2 w a n z) :
    Calls Try.prog 23 #[.int .i64 m, .slice a n cap] w fun e w' => Below w.heap.size w w' ∧ ∃ b cap P, e = .returned (.tuple #[.slice (some ⟨b, 0, none⟩) n cap, .int .i64 0]) ∧ IsRow w' (some ⟨b, 0, none⟩) n P ∧ IsSpl m n (ptW z) P := by
  refine (h w hr).mono fun e w' ⟨hb, h⟩ => ?_
  exact ⟨hb, (h.resolve_right (fun c => c.1 hv)).2⟩
theorem co_err {m : Int} {a : Option Addr} {n cap : Nat} {z : Nat → Nat → Int} (hv : dvE m n z ≠ 0) (h : ∀ w, IsRows 2 w a n z → Calls Try.prog 23 #[.int .i64 m, .slice a n cap] w (DvPost m n z w)) (w : World) (hr : IsRows 2 w a n z) :
    Calls Try.prog 23 #[.int .i64 m, .slice a n cap] w (RetB (.tuple #[.slice none 0 0, .int .i64 (dvE m n z)]) w) := by
  refine (h w hr).mono fun e w' ⟨hb, h⟩ => ?_
  exact ⟨(h.resolve_left (fun c => hv c.1)).2, hb⟩
theorem sp_ok {m : Int} {a : Option Addr} {n cap : Nat} {z : Nat → Nat → Int} (hv : dvE m n z = 0) (h : ∀ w, IsRows 2 w a n z → Calls Try.prog 24 #[.int .i64 m, .slice a n cap] w (DvPost m n z w)) (w : World) (hr : IsRows 2 w a n z) :
    Calls Try.prog 24 #[.int .i64 m, .slice a n cap] w fun e w' => Below w.heap.size w w' ∧ ∃ b cap P, e = .returned (.tuple #[.slice (some ⟨b, 0, none⟩) n cap, .int .i64 0]) ∧ IsRow w' (some ⟨b, 0, none⟩) n P ∧ IsSpl m n (ptW z) P := by
  refine (h w hr).mono fun e w' ⟨hb, h⟩ => ?_
  exact ⟨hb, (h.resolve_right (fun c => c.1 hv)).2⟩
theorem sp_err {m : Int} {a : Option Addr} {n cap : Nat} {z : Nat → Nat → Int} (hv : dvE m n z ≠ 0) (h : ∀ w, IsRows 2 w a n z → Calls Try.prog 24 #[.int .i64 m, .slice a n cap] w (DvPost m n z w)) (w : World) (hr : IsRows 2 w a n z) :
    Calls Try.prog 24 #[.int .i64 m, .slice a n cap] w (RetB (.tuple #[.slice none 0 0, .int .i64 (dvE m n z)]) w) := by
  refine (h w hr).mono fun e w' ⟨hb, h⟩ => ?_
  exact ⟨(h.resolve_left (fun c => hv c.1)).2, hb⟩
theorem rp_ok {m : Int} {a : Option Addr} {n cap : Nat} {z : Nat → Nat → Int} (hv : dvE m n z = 0) (h : ∀ w, IsRows 2 w a n z → Calls Try.prog 25 #[.int .i64 m, .slice a n cap] w (DvPost m n z w)) (w : World) (hr : IsRows 2 w a n z) :
    Calls Try.prog 25 #[.int .i64 m, .slice a n cap] w fun e w' => Below w.heap.size w w' ∧ ∃ b cap P, e = .returned (.tuple #[.slice (some ⟨b, 0, none⟩) n cap, .int .i64 0]) ∧ IsRow w' (some ⟨b, 0, none⟩) n P ∧ IsSpl m n (ptW z) P := by
  refine (h w hr).mono fun e w' ⟨hb, h⟩ => ?_
  exact ⟨hb, (h.resolve_right (fun c => c.1 hv)).2⟩
theorem rp_err {m : Int} {a : Option Addr} {n cap : Nat} {z : Nat → Nat → Int} (hv : dvE m n z ≠ 0) (h : ∀ w, IsRows 2 w a n z → Calls Try.prog 25 #[.int .i64 m, .slice a n cap] w (DvPost m n z w)) (w : World) (hr : IsRows 2 w a n z) :
    Calls Try.prog 25 #[.int .i64 m, .slice a n cap] w (RetB (.tuple #[.slice none 0 0, .int .i64 (dvE m n z)]) w) := by
  refine (h w hr).mono fun e w' ⟨hb, h⟩ => ?_
  exact ⟨(h.resolve_left (fun c => hv c.1)).2, hb⟩
set_option maxHeartbeats 4000000 in
set_option maxRecDepth 100000 in
theorem syndicateChecks_walk (a : Option Addr) (n cap : Nat) (z : Nat → Nat → Int) (m : Int) (W : World) (hz : IsRows 2 W a n z ∧ n ≤ cap) (_ : (Lit.int .i64 m).wf = true) :
    Calls Try.prog 9 #[.slice a n cap, .int .i64 m] W (RetB (.bool true) W) := by
  obtain ⟨hr, hcap⟩ := hz
  have HR := Lib.hid hr
  clear hr
  by_cases hl : 1000 < n
  · have hl' : (1000 : Int) < (n : Int) := by omega
    clear hl
    have HB0 := Lib.hid (Below.refl W.heap.size W)
    go_enter Try.func9, Try.ntmps9
    go_wp2_with (go_at_call 22; ((with_reducible refine (sawake_any _).mono ?_); rintro e w9 ⟨rfl, hb9⟩; have HB9 := Lib.hid ((HB0.out).trans (hb9.mono (HB0.out).size)); clear hb9))
    go_ret
    exact ⟨rfl, HB9.out⟩
  · have hl' : (n : Int) ≤ 1000 := by omega
    have hn : n ≤ 1000000 := by omega
    have HCK := Lib.hid (fun w hr => sCheck_any a n cap z w hr hn hcap)
    have HRC := Lib.hid (fun w hr => rsCheck_any a n cap z w hr hn)
    clear hl
    by_cases hv : dvE m n z = 0
    · have H1 := Lib.hid (co_ok hv (fun w hr => Contribute_any m a n cap z w hr hn hcap))
      have H2 := Lib.hid (sp_ok hv (fun w hr => sPay_any m a n cap z w hr hn hcap))
      have H3 := Lib.hid (rp_ok hv (fun w hr => rsPay_any m a n cap z w hr hn))
      clear hv
      generalize ckS z n = C at *
      go_enter Try.func9, Try.ntmps9
      go_wp2_with (first
        | (go_at_call 23; ((with_reducible refine (H1.out _ HR.out).mono ?_); rintro e w1 ⟨hb1, b1, c1, P1, rfl, r1, s1⟩; have HR1 := Lib.hid r1; have HS1 := Lib.hid s1; have HB1 := Lib.hid hb1; clear r1 s1 hb1))
        | (go_at_call 24; ((with_reducible refine (H2.out _ (HR.out.below HB1.out (Nat.le_refl _))).mono ?_); rintro e w2 ⟨hb2, b2, c2, P2, rfl, r2, s2⟩; have HR2 := Lib.hid r2; have HS2 := Lib.hid s2; have HQ2 := Lib.hid hb2; have HB2 := Lib.hid (HB1.out.trans (hb2.mono HB1.out.size)); clear r2 s2 hb2))
        | (go_at_call 25; ((with_reducible refine (H3.out _ (HR.out.below HB2.out (Nat.le_refl _))).mono ?_); rintro e w3 ⟨hb3, b3, c3, P3, rfl, r3, s3⟩; have HR3 := Lib.hid r3; have HS3 := Lib.hid s3; have HQ3 := Lib.hid hb3; have HB3 := Lib.hid (HB2.out.trans (hb3.mono HB2.out.size)); clear r3 s3 hb3))
        | (go_at_call 26; ((with_reducible refine (HCK.out _ (HR.out.below HB3.out (Nat.le_refl _))).mono ?_); rintro e w4 ⟨rfl, hb4⟩; have HQ4 := Lib.hid hb4; have HB4 := Lib.hid (HB3.out.trans (hb4.mono HB3.out.size)); clear hb4))
        | (go_at_call 27; ((with_reducible refine (HRC.out _ (HR.out.below HB4.out (Nat.le_refl _))).mono ?_); rintro e w' ⟨rfl, rfl⟩))
        | (go_at_call 28; ((with_reducible refine (ssame_any _ _ n _ _ P1 P3 _ (HR1.out.below (HQ2.out.trans ((HQ3.out.trans (HQ4.out.mono HQ3.out.size)).mono HQ2.out.size)) (Nat.le_refl _)) (HR3.out.below HQ4.out (Nat.le_refl _)) (IsSpl.unique HS1.out HS3.out)).mono ?_); rintro e w5 ⟨rfl, hb5⟩; have HQ5 := Lib.hid hb5; have HB5 := Lib.hid (HB4.out.trans (hb5.mono HB4.out.size)); clear hb5))
        | (go_at_call 28; ((with_reducible refine (ssame_any _ _ n _ _ P2 P3 _ (HR2.out.below (HQ3.out.trans ((HQ4.out.trans (HQ5.out.mono HQ4.out.size)).mono HQ3.out.size)) (Nat.le_refl _)) (HR3.out.below (HQ4.out.trans (HQ5.out.mono HQ4.out.size)) (Nat.le_refl _)) (IsSpl.unique HS2.out HS3.out)).mono ?_); rintro e w6 ⟨rfl, hb6⟩; have HB6 := Lib.hid (HB5.out.trans (hb6.mono HB5.out.size)); clear hb6))
        | (go_at_call 22; ((with_reducible refine (sawake_any _).mono ?_); rintro e w9 ⟨rfl, hb9⟩; have HB9 := Lib.hid ((HB6.out).trans (hb9.mono (HB6.out).size)); clear hb9)))
      go_ret
      exact ⟨rfl, HB9.out⟩
    · have H1 := Lib.hid (co_err hv (fun w hr => Contribute_any m a n cap z w hr hn hcap))
      have H2 := Lib.hid (sp_err hv (fun w hr => sPay_any m a n cap z w hr hn hcap))
      have H3 := Lib.hid (rp_err hv (fun w hr => rsPay_any m a n cap z w hr hn))
      have HZZ := Lib.hid (fun w => ssame_any none none 0 0 0 (fun _ => 0) (fun _ => 0) w (.inl rfl) (.inl rfl) (fun _ _ => rfl))
      clear hv
      generalize ckS z n = C at *
      generalize dvE m n z = E at *
      have HB0 := Lib.hid (Below.refl W.heap.size W)
      have hbel := Below.refl W.heap.size W
      go_enter Try.func9, Try.ntmps9
      go_wp2_with (first
        | (go_at_call 23; ((with_reducible refine (H1.out _ (HR.out.below hbel (Nat.le_refl _))).mono ?_); rintro e w1 ⟨rfl, hb1⟩; replace hbel := hbel.trans (hb1.mono hbel.size); clear hb1))
        | (go_at_call 24; ((with_reducible refine (H2.out _ (HR.out.below hbel (Nat.le_refl _))).mono ?_); rintro e w1 ⟨rfl, hb1⟩; replace hbel := hbel.trans (hb1.mono hbel.size); clear hb1))
        | (go_at_call 25; ((with_reducible refine (H3.out _ (HR.out.below hbel (Nat.le_refl _))).mono ?_); rintro e w1 ⟨rfl, hb1⟩; replace hbel := hbel.trans (hb1.mono hbel.size); clear hb1))
        | (go_at_call 26; ((with_reducible refine (HCK.out _ (HR.out.below hbel (Nat.le_refl _))).mono ?_); rintro e w1 ⟨rfl, hb1⟩; replace hbel := hbel.trans (hb1.mono hbel.size); clear hb1))
        | (go_at_call 27; ((with_reducible refine (HRC.out _ (HR.out.below hbel (Nat.le_refl _))).mono ?_); rintro e w' ⟨rfl, rfl⟩))
        | (go_at_call 28; ((with_reducible refine (HZZ.out _).mono ?_); rintro e w1 ⟨rfl, hb1⟩; replace hbel := hbel.trans (hb1.mono hbel.size); clear hb1))
        | (go_at_call 22; ((with_reducible refine (sawake_any _).mono ?_); rintro e w9 ⟨rfl, hb9⟩; have HB9 := Lib.hid ((hbel).trans (hb9.mono (hbel).size)); clear hb9)))
      go_ret
      exact ⟨rfl, HB9.out⟩
theorem st_ok {f t p : Int} {a : Option Addr} {n cap : Nat} {z : Nat → Nat → Int} (hv : trE z n f t p = 0) (h : ∀ w, IsRows 2 w a n z → Calls Try.prog 29 #[.slice a n cap, .int .i64 f, .int .i64 t, .int .i64 p] w (TrPost z n f t p w)) (w : World) (hr : IsRows 2 w a n z) :
    Calls Try.prog 29 #[.slice a n cap, .int .i64 f, .int .i64 t, .int .i64 p] w fun e w' => Below w.heap.size w w' ∧ ∃ a' cap', e = .returned (.tuple #[.slice a' (trS z f t p n).length cap', .int .i64 0]) ∧ IsRows 2 w' a' (trS z f t p n).length (zL (trS z f t p n)) ∧ (trS z f t p n).length ≤ cap' := by
  refine (h w hr).mono fun e w' ⟨hb, h⟩ => ?_
  exact ⟨hb, (h.resolve_right (fun c => c.1 hv)).2⟩
theorem st_err {f t p : Int} {a : Option Addr} {n cap : Nat} {z : Nat → Nat → Int} (hv : trE z n f t p ≠ 0) (h : ∀ w, IsRows 2 w a n z → Calls Try.prog 29 #[.slice a n cap, .int .i64 f, .int .i64 t, .int .i64 p] w (TrPost z n f t p w)) (w : World) (hr : IsRows 2 w a n z) :
    Calls Try.prog 29 #[.slice a n cap, .int .i64 f, .int .i64 t, .int .i64 p] w (RetB (.tuple #[.slice none 0 0, .int .i64 (trE z n f t p)]) w) := by
  refine (h w hr).mono fun e w' ⟨hb, h⟩ => ?_
  exact ⟨(h.resolve_left (fun c => hv c.1)).2, hb⟩
theorem rt_ok {f t p : Int} {a : Option Addr} {n cap : Nat} {z : Nat → Nat → Int} (hv : trE z n f t p = 0) (h : ∀ w, IsRows 2 w a n z → Calls Try.prog 30 #[.slice a n cap, .int .i64 f, .int .i64 t, .int .i64 p] w (TrPost z n f t p w)) (w : World) (hr : IsRows 2 w a n z) :
    Calls Try.prog 30 #[.slice a n cap, .int .i64 f, .int .i64 t, .int .i64 p] w fun e w' => Below w.heap.size w w' ∧ ∃ a' cap', e = .returned (.tuple #[.slice a' (trS z f t p n).length cap', .int .i64 0]) ∧ IsRows 2 w' a' (trS z f t p n).length (zL (trS z f t p n)) ∧ (trS z f t p n).length ≤ cap' := by
  refine (h w hr).mono fun e w' ⟨hb, h⟩ => ?_
  exact ⟨hb, (h.resolve_right (fun c => c.1 hv)).2⟩
theorem rt_err {f t p : Int} {a : Option Addr} {n cap : Nat} {z : Nat → Nat → Int} (hv : trE z n f t p ≠ 0) (h : ∀ w, IsRows 2 w a n z → Calls Try.prog 30 #[.slice a n cap, .int .i64 f, .int .i64 t, .int .i64 p] w (TrPost z n f t p w)) (w : World) (hr : IsRows 2 w a n z) :
    Calls Try.prog 30 #[.slice a n cap, .int .i64 f, .int .i64 t, .int .i64 p] w (RetB (.tuple #[.slice none 0 0, .int .i64 (trE z n f t p)]) w) := by
  refine (h w hr).mono fun e w' ⟨hb, h⟩ => ?_
  exact ⟨(h.resolve_left (fun c => hv c.1)).2, hb⟩
set_option maxHeartbeats 4000000 in
set_option maxRecDepth 100000 in
theorem syndicateTransfers_walk (a : Option Addr) (n cap : Nat) (z : Nat → Nat → Int) (f t p : Int) (W : World) (hz : IsRows 2 W a n z ∧ n ≤ cap) (_ : (Lit.int .i64 f).wf = true) (_ : (Lit.int .i64 t).wf = true) (_ : (Lit.int .i64 p).wf = true) :
    Calls Try.prog 10 #[.slice a n cap, .agg #[.int .i64 f, .int .i64 t, .int .i64 p]] W (RetB (.bool true) W) := by
  obtain ⟨hr, hcap⟩ := hz
  have HR := Lib.hid hr
  have HBX := Lib.hid ((Below.refl W.heap.size W).alloc (Nat.le_refl _) (.cells #[.int .i64 f, .int .i64 t, .int .i64 p] 40))
  have hbox : ∀ i, (W.alloc (.cells #[.int .i64 f, .int .i64 t, .int .i64 p] 40)).cell? ⟨W.heap.size, i, none⟩ = (#[.int .i64 f, .int .i64 t, .int .i64 p] : Array Value)[i]? := fun i => (Cel.new W _ _).cell i
  have HBC := Lib.hid hbox
  clear hr hbox
  by_cases hl : 1000 < n
  · have hl' : (1000 : Int) < (n : Int) := by omega
    clear hl
    go_enter Try.func10, Try.ntmps10
    go_wp2_with (go_at_call 22; ((with_reducible refine (sawake_any _).mono ?_); rintro e w9 ⟨rfl, hb9⟩; have HB9 := Lib.hid ((HBX.out).trans (hb9.mono (HBX.out).size)); clear hb9))
    go_ret
    exact ⟨rfl, HB9.out⟩
  · have hl' : (n : Int) ≤ 1000 := by omega
    have hn : n ≤ 1000000 := by omega
    clear hl
    by_cases hv : trE z n f t p = 0
    · have H1 := Lib.hid (st_ok hv (fun w hr => Transfer_any a n cap z f t p w hr hn hcap))
      have H2 := Lib.hid (rt_ok (cap := cap) hv (fun w hr => rTransfer_any a n cap z f t p w hr hn))
      clear hv
      generalize trS z f t p n = L at *
      go_enter Try.func10, Try.ntmps10
      go_wp2_with (first
        | (go_at_call 29; ((with_reducible refine (H1.out _ (HR.out.below HBX.out (Nat.le_refl _))).mono ?_); rintro e w1 ⟨hb1, a1, c1, rfl, r1, l1⟩; have HR1 := Lib.hid r1; have HB1 := Lib.hid (HBX.out.trans (hb1.mono HBX.out.size)); have k0 := (hb1.cell (p := ⟨W.heap.size, 0, none⟩) (by simp)).trans (HBC.out 0); have k1 := (hb1.cell (p := ⟨W.heap.size, 1, none⟩) (by simp)).trans (HBC.out 1); have k2 := (hb1.cell (p := ⟨W.heap.size, 2, none⟩) (by simp)).trans (HBC.out 2); clear r1 l1 hb1))
        | (go_at_call 30; ((with_reducible refine (H2.out _ (HR.out.below HB1.out (Nat.le_refl _))).mono ?_); rintro e w2 ⟨hb2, a2, c2, rfl, r2, l2⟩; have HR2 := Lib.hid r2; have HQ2 := Lib.hid hb2; have HB2 := Lib.hid (HB1.out.trans (hb2.mono HB1.out.size)); clear r2 l2 hb2))
        | (go_at_call 31; ((with_reducible refine (shares_any _ _ L.length _ _ (zL L) (zL L) _ (HR1.out.below HQ2.out (Nat.le_refl _)) HR2.out (fun _ _ => ⟨rfl, rfl⟩)).mono ?_); rintro e w3 ⟨rfl, hb3⟩; have HB3 := Lib.hid (HB2.out.trans (hb3.mono HB2.out.size)); clear hb3))
        | (go_at_call 22; ((with_reducible refine (sawake_any _).mono ?_); rintro e w9 ⟨rfl, hb9⟩; have HB9 := Lib.hid ((HB3.out).trans (hb9.mono (HB3.out).size)); clear hb9)))
      go_ret
      exact ⟨rfl, HB9.out⟩
    · have H1 := Lib.hid (st_err hv (fun w hr => Transfer_any a n cap z f t p w hr hn hcap))
      have H2 := Lib.hid (rt_err (cap := cap) hv (fun w hr => rTransfer_any a n cap z f t p w hr hn))
      have HZZ := Lib.hid (fun w => shares_any none none 0 0 0 (fun _ _ => 0) (fun _ _ => 0) w (.inl rfl) (.inl rfl) (fun _ _ => ⟨rfl, rfl⟩))
      clear hv
      generalize trE z n f t p = E at *
      go_enter Try.func10, Try.ntmps10
      go_wp2_with (first
        | (go_at_call 29; ((with_reducible refine (H1.out _ (HR.out.below HBX.out (Nat.le_refl _))).mono ?_); rintro e w1 ⟨rfl, hb1⟩; have HB1 := Lib.hid (HBX.out.trans (hb1.mono HBX.out.size)); have k0 := (hb1.cell (p := ⟨W.heap.size, 0, none⟩) (by simp)).trans (HBC.out 0); have k1 := (hb1.cell (p := ⟨W.heap.size, 1, none⟩) (by simp)).trans (HBC.out 1); have k2 := (hb1.cell (p := ⟨W.heap.size, 2, none⟩) (by simp)).trans (HBC.out 2); clear hb1))
        | (go_at_call 30; ((with_reducible refine (H2.out _ (HR.out.below HB1.out (Nat.le_refl _))).mono ?_); rintro e w2 ⟨rfl, hb2⟩; have HB2 := Lib.hid (HB1.out.trans (hb2.mono HB1.out.size)); clear hb2))
        | (go_at_call 31; ((with_reducible refine (HZZ.out _).mono ?_); rintro e w3 ⟨rfl, hb3⟩; have HB3 := Lib.hid (HB2.out.trans (hb3.mono HB2.out.size)); clear hb3))
        | (go_at_call 22; ((with_reducible refine (sawake_any _).mono ?_); rintro e w9 ⟨rfl, hb9⟩; have HB9 := Lib.hid ((HB3.out).trans (hb9.mono (HB3.out).size)); clear hb9)))
      go_ret
      exact ⟨rfl, HB9.out⟩
end Go.Proofs.Ytkpmbkkhdhjbnaa
