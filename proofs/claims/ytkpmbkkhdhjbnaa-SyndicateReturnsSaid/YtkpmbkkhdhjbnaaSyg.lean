/- What each member pays or gets. -/
import Derived.Test.YtkpmbkkhdhjbnaaSye
import Derived.Test.YtkpmbkkhdhjbnaaAnd
namespace Go.Proofs.Ytkpmbkkhdhjbnaa
open Go.ChangeShapes Go.WideShapes Go.ChangeAt Go.RowKit Go.Lott
open Go.Lott.Syn Go.Lott.Spl
def ptW (z : Nat → Nat → Int) : Nat → Int := fun i => z i 1
theorem vld_sok {m : Int} {n : Nat} {z : Nat → Nat → Int} (h : Vld z n) (hm : 0 ≤ m ∧ m ≤ 1000000000000) : SOk m (ptW z) n := by
  have hn := h.n1
  have hw : ∀ i, i < n → 0 ≤ ptW z i ∧ ptW z i ≤ 1000000000000 := fun i hi => by have := h.rng i hi; unfold ptW; omega
  refine ⟨hm.1, hm.2, hn, h.n2, hw, ?_⟩
  have := sm_term (f := ptW z) (fun k hk => (hw k hk).1) (show 0 < n by omega)
  have h0 := h.rng 0 (by omega)
  unfold ptW at this ⊢; omega
def dvE (m : Int) (n : Nat) (z : Nat → Nat → Int) : Int := if ckS z n = 0 then (if 0 ≤ m ∧ m ≤ 1000000000000 then 0 else 2) else ckS z n
theorem dv_ck {m : Int} {n : Nat} {z : Nat → Nat → Int} (h : ckS z n ≠ 0) : dvE m n z = ckS z n := if_neg h
theorem dv_am {m : Int} {n : Nat} {z : Nat → Nat → Int} (h : ckS z n = 0) (hm : ¬ (0 ≤ m ∧ m ≤ 1000000000000)) : dvE m n z = 2 := by unfold dvE; rw [if_pos h, if_neg hm]
theorem dv_ok {m : Int} {n : Nat} {z : Nat → Nat → Int} (h : ckS z n = 0) (hm : 0 ≤ m ∧ m ≤ 1000000000000) : dvE m n z = 0 := by unfold dvE; rw [if_pos h, if_pos hm]
theorem dv_of {m : Int} {n : Nat} {z : Nat → Nat → Int} (h : dvE m n z = 0) : Vld z n ∧ SOk m (ptW z) n := by
  by_cases c : ckS z n = 0
  · by_cases hm : 0 ≤ m ∧ m ≤ 1000000000000
    · exact ⟨ck_vld c, vld_sok (ck_vld c) hm⟩
    · rw [dv_am c hm] at h; omega
  · rw [dv_ck c] at h; exact absurd h c
/-- What is left by a division among members. -/
def DvPost (m : Int) (n : Nat) (z : Nat → Nat → Int) (w : World) (e : Ending) (w' : World) : Prop :=
  Below w.heap.size w w' ∧ ((dvE m n z = 0 ∧ ∃ b cap P, e = .returned (.tuple #[.slice (some ⟨b, 0, none⟩) n cap, .int .i64 0]) ∧ IsRow w' (some ⟨b, 0, none⟩) n P ∧ IsSpl m n (ptW z) P) ∨
    (dvE m n z ≠ 0 ∧ e = .returned (.tuple #[.slice none 0 0, .int .i64 (dvE m n z)])))
theorem dv_err {m : Int} {n : Nat} {z : Nat → Nat → Int} {w w' : World} {E : Int} (hb : Below w.heap.size w w') (h : dvE m n z = E) (h0 : E ≠ 0) : DvPost m n z w (.returned (.tuple #[.slice none 0 0, .int .i64 E])) w' :=
  ⟨hb, .inr ⟨by rw [h]; exact h0, by rw [h]⟩⟩
set_option maxRecDepth 100000 in
set_option maxHeartbeats 4000000 in
theorem divide_any (m : Int) (a : Option Addr) (n cap : Nat) (z : Nat → Nat → Int) (w : World) (hr : IsRows 2 w a n z) (hn : n ≤ 1000000) (hcap : n ≤ cap) :
    Calls Try.prog 45 #[.int .i64 m, .slice a n cap] w (DvPost m n z w) := by
  have hc := sCheck_any a n cap z w hr hn hcap
  have HR := Lib.hid hr
  clear hr
  by_cases hck : ckS z n = 0
  · have HCK := Lib.hid hck
    have HVL := Lib.hid (ck_vld hck)
    rw [hck] at hc
    have HC := Lib.hid hc
    have n1 := HVL.out.n1
    have n2 := HVL.out.n2
    clear hc hck hn
    have hv := fun w => Valid_any m w
    by_cases hm : 0 ≤ m ∧ m ≤ 1000000000000
    · rw [(amB_iff m).2 hm] at hv
      have HM := Lib.hid hv
      have HK := Lib.hid (vld_sok HVL.out hm)
      have HV := Lib.hid (dv_ok HCK.out hm)
      clear hv hm
      have HS := Lib.hid (fun a cap w h => Split_ok m a n cap (ptW z) w h HK.out)
      obtain ⟨i0, hi, hz0, hz1, hz2⟩ := info_parts info3
      have tok1 : True := trivial
      have hb8 : i0.bytes * n ≤ 281474976710656 := by rw [hz2]; omega
      have hml : n ≤ maxLen := by unfold maxLen; omega
      obtain ⟨b, o, rfl, hbb, _, hcell⟩ := HR.out.resolve_left (by omega)
      have HCL := Lib.hid hcell
      clear hcell
      go_enter Try.func45, Try.ntmps45
      go_wp2_with (first
        | (go_at_call 26; ((with_reducible refine (HC.out).mono ?_); rintro e w0 ⟨rfl, hb0⟩; have HB0 := Lib.hid hb0; clear hb0))
        | (go_at_call 35; ((with_reducible refine (HM.out _).mono ?_); rintro e w' ⟨rfl, rfl⟩))
        | (have _t := tok1; refine wpList_make_full _ rfl _ _ 22 rfl 0 3 i0 (.int .i64 0) 1 Try.underlying22 hi hz0 hz1 .i64 .i64 (n : Int) (n : Int) n (by rfl) (by rfl) rfl rfl hb8 hml (Nat.zero_le _) ?_; intro wA oA gA; clear tok1))
      have b1 : Below w0.heap.size w0 wA := (Below.refl _ _).grown gA (Nat.le_refl _) (fun k hk => by cases hk)
      have b2 := HB0.out.trans (b1.mono HB0.out.size)
      have HC1 := Lib.hid (cel_of_made oA)
      have hsz := HB0.out.size
      clear oA gA b1
      go_loopw [23] (fun vi wr => ∃ k : Nat, k ≤ n ∧ vi = .int .i64 k ∧ Cel wr w0.heap.size (fv n (upTo (ptW z) k)) 3 ∧ Below w.heap.size w wr) (fun vi _ => n - (intOf vi).toNat)
      case atStart => exact ⟨0, by omega, rfl, by rw [fv_congr (g := fun _ => 0) (fun k _ => by unfold upTo; rw [if_neg (by omega)])]; exact HC1.out, b2⟩
      case round =>
        obtain ⟨k, hk, rfl, hcel, hbel⟩ := hrel
        have HC2 := Lib.hid hcel
        have hbs := hbel.size
        have hlt0 := hcel.lt
        clear hcel
        by_cases hlt : k < n
        · have c0 : wr.cell? ⟨b, o + k * 2, none⟩ = some (.int .i64 (z k 0)) := (hbel.cell (p := ⟨b, _, none⟩) hbb).trans (HCL.out k 0 hlt (by omega))
          have c1 : wr.cell? ⟨b, o + k * 2 + 1, none⟩ = some (.int .i64 (z k 1)) := (hbel.cell (p := ⟨b, _, none⟩) hbb).trans (HCL.out k 1 hlt (by omega))
          have cw := HC2.out.at hlt
          have fw := HC2.out.free k
          have HU := Lib.hid (fun i => upTo_next (ptW z) k i)
          have i1 : (0 : Int) ≤ (k : Int) := by omega
          have i2 : (k : Int) < (n : Int) := by omega
          go_wp2
          go_roundw
          case rel => exact ⟨k + 1, hlt, by go_num, by rw [← fv_congr (fun i _ => HU.out i)]; exact (HC2.out.put k _).alloc _, (hbel.setCell hsz _).alloc (by simp; omega) _⟩
          case measure => simp [intOf]; omega
        · obtain rfl : k = n := by omega
          have HRW := Lib.hid (show IsRow wr (some ⟨w0.heap.size, 0, none⟩) k (ptW z) from .inr ⟨_, 0, rfl, HC2.out.lt, by unfold maxLen; omega, fun i hi => by rw [Nat.zero_add, HC2.out.at hi]; unfold upTo; rw [if_pos hi]⟩)
          go_wp2_with (go_at_call 36; ((with_reducible refine (HS.out _ _ _ HRW.out).mono ?_); rintro e w2 ⟨hb2, b2, c2, P, rfl, r2, sp⟩; have HR2 := Lib.hid r2; have HSP := Lib.hid sp; clear r2 sp))
          go_ret2
          exact ⟨hbel.trans (hb2.mono hbs), .inl ⟨HV.out, b2, c2, P, rfl, HR2.out, HSP.out⟩⟩
    · rw [show amB m = false from decide_eq_false hm] at hv
      have HM := Lib.hid hv
      have HV := Lib.hid (dv_am HCK.out hm)
      clear hv hm
      go_enter Try.func45, Try.ntmps45
      go_wp2_with (first
        | (go_at_call 26; ((with_reducible refine (HC.out).mono ?_); rintro e w0 ⟨rfl, hb0⟩; have HB0 := Lib.hid hb0; clear hb0))
        | (go_at_call 35; ((with_reducible refine (HM.out _).mono ?_); rintro e w' ⟨rfl, rfl⟩)))
      go_ret2
      exact dv_err HB0.out HV.out (by decide)
  · have HC := Lib.hid (hc)
    have HE := Lib.hid hck
    have he1 : (ckS z n != 0) = true := by rw [bne_iff_ne]; exact hck
    have HV := Lib.hid (dv_ck (m := m) hck)
    clear hck
    go_enter Try.func45, Try.ntmps45
    clear hc
    go_wp2_with (go_at_call 26; ((with_reducible refine (HC.out).mono ?_); rintro e w0 ⟨rfl, hb0⟩; have HB0 := Lib.hid hb0; clear hb0))
    go_ret2
    exact dv_err HB0.out HV.out HE.out
theorem Contribute_any (m : Int) (a : Option Addr) (n cap : Nat) (z : Nat → Nat → Int) (w : World) (hr : IsRows 2 w a n z) (hn : n ≤ 1000000) (hcap : n ≤ cap) :
    Calls Try.prog 23 #[.int .i64 m, .slice a n cap] w (DvPost m n z w) := by
  have HD := Lib.hid (divide_any m a n cap z w hr hn hcap)
  clear hr
  by_cases hv : dvE m n z = 0
  · have HV := Lib.hid hv
    clear hv
    go_enter Try.func23, Try.ntmps23
    go_wp2_with (go_at_call 45; ((with_reducible refine (HD.out).mono ?_); rintro e w2 ⟨hb2, ⟨_, b2, c2, P, rfl, r2, sp⟩ | ⟨hx, _⟩⟩; rotate_left; exact absurd HV.out hx; have HB2 := Lib.hid hb2; have HR2 := Lib.hid r2; have HSP := Lib.hid sp; clear hb2 r2 sp))
    go_ret2
    exact ⟨HB2.out, .inl ⟨HV.out, b2, c2, P, rfl, HR2.out, HSP.out⟩⟩
  · have HV := Lib.hid hv
    clear hv
    go_enter Try.func23, Try.ntmps23
    go_wp2_with (go_at_call 45; ((with_reducible refine (HD.out).mono ?_); rintro e w2 ⟨hb2, ⟨hx, _⟩ | ⟨_, rfl⟩⟩; exact absurd hx HV.out; have HB2 := Lib.hid hb2; clear hb2))
    go_ret2
    exact ⟨HB2.out, .inr ⟨HV.out, rfl⟩⟩
theorem sPay_any (m : Int) (a : Option Addr) (n cap : Nat) (z : Nat → Nat → Int) (w : World) (hr : IsRows 2 w a n z) (hn : n ≤ 1000000) (hcap : n ≤ cap) :
    Calls Try.prog 24 #[.int .i64 m, .slice a n cap] w (DvPost m n z w) := by
  have HD := Lib.hid (divide_any m a n cap z w hr hn hcap)
  clear hr
  by_cases hv : dvE m n z = 0
  · have HV := Lib.hid hv
    clear hv
    go_enter Try.func24, Try.ntmps24
    go_wp2_with (go_at_call 45; ((with_reducible refine (HD.out).mono ?_); rintro e w2 ⟨hb2, ⟨_, b2, c2, P, rfl, r2, sp⟩ | ⟨hx, _⟩⟩; rotate_left; exact absurd HV.out hx; have HB2 := Lib.hid hb2; have HR2 := Lib.hid r2; have HSP := Lib.hid sp; clear hb2 r2 sp))
    go_ret2
    exact ⟨HB2.out, .inl ⟨HV.out, b2, c2, P, rfl, HR2.out, HSP.out⟩⟩
  · have HV := Lib.hid hv
    clear hv
    go_enter Try.func24, Try.ntmps24
    go_wp2_with (go_at_call 45; ((with_reducible refine (HD.out).mono ?_); rintro e w2 ⟨hb2, ⟨hx, _⟩ | ⟨_, rfl⟩⟩; exact absurd hx HV.out; have HB2 := Lib.hid hb2; clear hb2))
    go_ret2
    exact ⟨HB2.out, .inr ⟨HV.out, rfl⟩⟩
theorem dv_spl {m : Int} {n : Nat} {z : Nat → Nat → Int} {w1 w' : World} {e : Ending} (hck : ckS z n = 0) (h : SplPost m n (ptW z) w1 e w') :
    (dvE m n z = 0 ∧ ∃ b cap P, e = .returned (.tuple #[.slice (some ⟨b, 0, none⟩) n cap, .int .i64 0]) ∧ IsRow w' (some ⟨b, 0, none⟩) n P ∧ IsSpl m n (ptW z) P) ∨
    (dvE m n z ≠ 0 ∧ e = .returned (.tuple #[.slice none 0 0, .int .i64 (dvE m n z)])) := by
  obtain ⟨_, ⟨hk, h⟩ | ⟨hx, he⟩⟩ := h
  · exact .inl ⟨dv_ok hck ⟨hk.m0, hk.m1⟩, h⟩
  · by_cases hm : 0 ≤ m ∧ m ≤ 1000000000000
    · exact absurd (splE_ok (vld_sok (ck_vld hck) hm)) hx
    · rw [splE_am hm] at he
      rw [dv_am hck hm]
      exact .inr ⟨by decide, he⟩
set_option maxRecDepth 100000 in
set_option maxHeartbeats 4000000 in
theorem rsPay_any (m : Int) (a : Option Addr) (n cap : Nat) (z : Nat → Nat → Int) (w : World) (hr : IsRows 2 w a n z) (hn : n ≤ 1000000) :
    Calls Try.prog 25 #[.int .i64 m, .slice a n cap] w (DvPost m n z w) := by
  have hc := rsCheck_any a n cap z w hr hn
  have HR := Lib.hid hr
  clear hr
  by_cases hck : ckS z n = 0
  · have HCK := Lib.hid hck
    have HVL := Lib.hid (ck_vld hck)
    rw [hck] at hc
    have HC := Lib.hid hc
    have n1 := HVL.out.n1
    have n2 := HVL.out.n2
    clear hc hck hn
    have HS := Lib.hid (fun a cap w h => rSplit_any m a n cap (ptW z) w h (by unfold maxLen; omega))
    obtain ⟨i0, hi, hz0, hz1, hz2⟩ := info_parts info3
    obtain ⟨b, o, rfl, hbb, _, hcell⟩ := HR.out.resolve_left (by omega)
    have HCL := Lib.hid hcell
    clear hcell
    go_enter Try.func25, Try.ntmps25
    go_wp2_with (go_at_call 27; ((with_reducible refine (HC.out).mono ?_); rintro e w0 ⟨rfl, rfl⟩))
    go_loopw [7, 8] (fun vl vi wr => ∃ (k : Nat) (v8 : Value), v8 = vl ∧ vi = .int .i64 k ∧ k ≤ n ∧ wr.ownsRow w.heap.size 3 1 v8 k (fl k (ptW z)) ∧ Below w.heap.size w wr) (fun _ vi _ => n - (intOf vi).toNat)
    case atStart => exact ⟨0, .slice none 0 0, rfl, rfl, by omega, ⟨rfl, .inl ⟨rfl, rfl⟩⟩, Below.refl _ _⟩
    case round =>
      obtain ⟨k, v8, rfl, rfl, hk, o8, hbel⟩ := hrel
      have O8 := Lib.hid o8
      have hbs := hbel.size
      clear o8
      by_cases hlt : k < n
      · have c1 : wr.cell? ⟨b, o + k * 2 + 1, none⟩ = some (.int .i64 (ptW z k)) := (hbel.cell (p := ⟨b, _, none⟩) hbb).trans (HCL.out k 1 hlt (by omega))
        have HF := Lib.hid (fl_succ k (ptW z))
        have tok1 : True := trivial
        have i1 : (0 : Int) ≤ (k : Int) := by omega
        have i2 : (k : Int) < (n : Int) := by omega
        go_wp2_with (at_builtin; have _t := tok1; refine wpList_append_lies _ rfl _ _ 22 rfl w.heap.size 3 i0 (.int .i64 0) 1 8 Try.underlying22 hi hz0 hz1 hz2 rfl (by decide) v8 k (fl k (ptW z)) (by rfl) (O8.out.alloc _) ⟨wr.heap.size, 0, none⟩ 1 1 [.int .i64 (ptW z k)] (by rfl) (by rfl) (World.news_of_block (cs := #[.int .i64 (ptW z k)]) (t := 3) (fr := (0, 0)) (heap_alloc_new wr _)) (by simp [Value.oneCell']) (by omega) (by unfold maxLen; omega) (by omega) (by simp; omega) (wr.heap.size + 1) (by simp) ?_; intro g8 c8 w1 own8 gr8 at8 lt8; clear tok1)
        have hb1 := (hbel.alloc hbs (.cells #[.int .i64 (ptW z k)] 3)).grown gr8 (by simp; omega) (own_ge O8.out)
        rw [← HF.out] at own8
        have H8 := Lib.hid own8
        clear own8 gr8 at8 lt8
        go_roundw
        case rel => exact ⟨k + 1, _, rfl, by go_num, hlt, H8.out, hb1⟩
        case measure => simp [intOf]; omega
      · obtain rfl : k = n := by omega
        obtain ⟨g8, c8, rfl, hg8, hl8⟩ := O8.out.form (by omega)
        have HRW := Lib.hid (IsRow.of_rw (rw_of_owns O8.out) (show k ≤ maxLen by unfold maxLen; omega))
        by_cases hv : dvE m k z = 0
        · have HV := Lib.hid hv
          clear hv
          go_wp2_with (go_at_call 38; ((with_reducible refine (HS.out _ _ _ HRW.out).mono ?_); intro e w2 hsp; have hb2 := hsp.1; obtain ⟨_, b2, c2, P, rfl, r2, sp⟩ := (dv_spl HCK.out hsp).resolve_right (fun h => h.1 HV.out); have HB2 := Lib.hid hb2; have HR2 := Lib.hid r2; have HSP := Lib.hid sp; clear hb2 r2 sp hsp))
          go_ret2
          exact ⟨hbel.trans (HB2.out.mono hbs), .inl ⟨HV.out, b2, c2, P, rfl, HR2.out, HSP.out⟩⟩
        · have HV := Lib.hid hv
          clear hv
          go_wp2_with (go_at_call 38; ((with_reducible refine (HS.out _ _ _ HRW.out).mono ?_); intro e w2 hsp; have hb2 := hsp.1; obtain ⟨_, rfl⟩ := (dv_spl HCK.out hsp).resolve_left (fun h => HV.out h.1); have HB2 := Lib.hid hb2; clear hb2 hsp))
          go_ret2
          exact ⟨hbel.trans (HB2.out.mono hbs), .inr ⟨HV.out, rfl⟩⟩
  · have HC := Lib.hid (hc)
    have HE := Lib.hid hck
    have he1 : (ckS z n != 0) = true := by rw [bne_iff_ne]; exact hck
    have HV := Lib.hid (dv_ck (m := m) hck)
    clear hck
    go_enter Try.func25, Try.ntmps25
    clear hc
    go_wp2_with (go_at_call 27; ((with_reducible refine (HC.out).mono ?_); rintro e w0 ⟨rfl, rfl⟩))
    go_ret2
    exact dv_err (Below.refl _ _) HV.out HE.out
end Go.Proofs.Ytkpmbkkhdhjbnaa
