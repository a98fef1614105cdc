/- The laws MoneySums, MoneyDivides, MoneyTakes: their walks. -/
import Derived.Test.YtkpmbkkhdhjbnaaDoorMpf
import Derived.Test.YtkpmbkkhdhjbnaaDoorTabm
import Derived.Deep.Slices
import Derived.Deep.Fields
import Derived.ChangeSame
import Derived.OpenShut
namespace Go.Proofs.YtkpmbkkhdhjbnaaDoor
open Go.ChangeShapes Go.WideShapes Go.ChangeAt Go.RowKit Go.Lott
open Go.Lott.Spl Go.Lott.Mny
section
variable {H : Type} {enc : TypeId × Value → H} {P : Program} {w : World} {spare : Nat → Bool} {held : Bool}
/-- Out of the reading of a slice of numbers: the row. -/
theorem isRow_of_trod {t e : TypeId} {a : Option Addr} {len cap : Nat} {d : DataW H} {p : List MemPlace} (ht : P.underlying t = some (.slice e)) (he : P.underlying e = some (.int .i64)) (hC : P.cellsOf e = 1)
    (h : DataW.Trod enc P w 0 spare held t (.slice a len cap) d p) : ∃ z, IsRow w a len z ∧ len ≤ cap := by
  obtain ⟨fuel, hf⟩ := h
  by_cases h0 : len = 0
  · exact ⟨fun _ => 0, .inl h0, by omega⟩
  rcases Go.Deep.open_slice ht hf with ⟨hcs, _⟩ | ⟨ad, len', cap', m, q, D, Pl, hcs, hb, hl, hm, hmm, hx, hi'⟩
  · simp [Value.cells] at hcs; omega
  · simp [Value.cells] at hcs
    obtain ⟨rfl, rfl, rfl⟩ := hcs
    have hlm : len ≤ m := by rw [hmm]; split <;> omega
    have key : ∀ i, ∃ v, i < len → w.cell? (ad.add i) = some (.int .i64 v) := by
      intro i
      by_cases hij : i < len
      · obtain ⟨cs', hc, ht'⟩ := hi' i (by omega)
        rw [hC] at hc
        obtain ⟨_, hcl, hat⟩ := World.cells?_some hc
        obtain ⟨v, hv, _⟩ := DataW.trod_int he ht'
        have hv0 : cs'[0]? = some (.int .i64 v) := by rw [hv]; rfl
        refine ⟨v, fun _ => ?_⟩
        have := hat 0 (by omega)
        rw [hv0] at this
        rw [← this]
        congr 1
        rw [Go.Deep.add_add, Nat.mul_one, Nat.add_zero]
      · exact ⟨0, fun h1 => (hij h1).elim⟩
    obtain ⟨b, o, spot⟩ := ad
    obtain ⟨v0, hv0⟩ := key 0
    have hv0 := hv0 (by omega)
    have hspot : spot = none := by simpa [Addr.add] using World.cell?_spot hv0
    subst hspot
    have hblt : b < w.heap.size := by simpa [Addr.add] using World.block_lt_of_cell? w _ hv0
    refine ⟨fun i => (key i).choose, .inr ⟨b, o, rfl, hblt, by omega, fun i hi => ?_⟩, hl⟩
    have := (key i).choose_spec hi
    have ea : Addr.add ⟨b, o, none⟩ i = ⟨b, o + i, none⟩ := by
      unfold Addr.add
      by_cases h : i = 0
      · subst h; simp
      · simp [h]
    exact (congrArg w.cell? ea).symm.trans this
end
theorem row_max {w : World} {a : Option Addr} {n : Nat} {z : Nat → Int} (h : IsRow w a n z) : n ≤ maxLen := by
  rcases h with h | ⟨_, _, _, _, h, _⟩
  · rw [h]; exact Nat.zero_le _
  · exact h
theorem Split_ok (m : Int) (a : Option Addr) (n cap : Nat) (ws : Nat → Int) (w : World) (hr : IsRow w a n ws) (hk : SOk m ws n) :
    Calls Tryd.prog 11 #[.int .i64 m, .slice a n cap] w fun e w' => Below w.heap.size w w' ∧ ∃ b cap P, e = .returned (.tuple #[.slice (some ⟨b, 0, none⟩) n cap, .int .i64 0]) ∧ IsRow w' (some ⟨b, 0, none⟩) n P ∧ IsSpl m n ws P := by
  refine (Split_any m a n cap ws w hr (row_max hr)).mono fun e w' h => ?_
  obtain ⟨hb, h | ⟨hne, _⟩⟩ := h
  · exact ⟨hb, h.2⟩
  · exact absurd (splE_ok hk) hne
theorem Split_err (m : Int) (a : Option Addr) (n cap : Nat) (ws : Nat → Int) (w : World) (hr : IsRow w a n ws) (hk : splE m n ws ≠ 0) :
    Calls Tryd.prog 11 #[.int .i64 m, .slice a n cap] w (RetB (.tuple #[.slice none 0 0, .int .i64 (splE m n ws)]) w) := by
  refine (Split_any m a n cap ws w hr (row_max hr)).mono fun e w' h => ?_
  obtain ⟨hb, ⟨hk', _⟩ | ⟨_, he⟩⟩ := h
  · exact absurd (splE_ok hk') hk
  · exact ⟨he, hb⟩
theorem rSplit_ok (m : Int) (a : Option Addr) (n cap : Nat) (ws : Nat → Int) (w : World) (hr : IsRow w a n ws) (hk : SOk m ws n) :
    Calls Tryd.prog 12 #[.int .i64 m, .slice a n cap] w fun e w' => Below w.heap.size w w' ∧ ∃ b cap P, e = .returned (.tuple #[.slice (some ⟨b, 0, none⟩) n cap, .int .i64 0]) ∧ IsRow w' (some ⟨b, 0, none⟩) n P ∧ IsSpl m n ws P := by
  refine (rSplit_any m a n cap ws w hr (row_max hr)).mono fun e w' h => ?_
  obtain ⟨hb, h | ⟨hne, _⟩⟩ := h
  · exact ⟨hb, h.2⟩
  · exact absurd (splE_ok hk) hne
theorem rSplit_err (m : Int) (a : Option Addr) (n cap : Nat) (ws : Nat → Int) (w : World) (hr : IsRow w a n ws) (hk : splE m n ws ≠ 0) :
    Calls Tryd.prog 12 #[.int .i64 m, .slice a n cap] w (RetB (.tuple #[.slice none 0 0, .int .i64 (splE m n ws)]) w) := by
  refine (rSplit_any m a n cap ws w hr (row_max hr)).mono fun e w' h => ?_
  obtain ⟨hb, ⟨hk', _⟩ | ⟨_, he⟩⟩ := h
  · exact absurd (splE_ok hk') hk
  · exact ⟨he, hb⟩
set_option maxHeartbeats 2000000 in
theorem moneySums_walk (a : Option Addr) (n cap : Nat) (z : Nat → Int) (W : World) (hz : IsRow W a n z ∧ n ≤ cap) (hp : P10 W) :
    Calls Tryd.prog 10 #[.slice a n cap] W (RetB (.bool true) W) := by
  have HT := Lib.hid hp
  have HR := Lib.hid hz.1
  have HMX := Lib.hid (row_max hz.1)
  clear hp hz
  by_cases hl : 5000 < n
  · have hl' : (5000 : Int) < (n : Int) := by omega
    clear hl
    go_enter Tryd.func10, Tryd.ntmps10
    go_wp2_with (go_at_call 14; ((with_reducible refine (mawake_any _ HT.out).mono ?_); rintro e w1 ⟨rfl, hb1⟩))
    go_ret
    exact ⟨rfl, hb1⟩
  · have hl' : (n : Int) ≤ 5000 := by omega
    clear hl
    have HS := Lib.hid (Sum_any a n cap z W HR.out HMX.out)
    have HRS := Lib.hid (rSum_any a n cap z W HR.out HMX.out)
    go_enter Tryd.func10, Tryd.ntmps10
    go_wp2_with (first
      | (go_at_call 28; ((with_reducible refine (HS.out).mono ?_); rintro e w' ⟨rfl, rfl⟩))
      | (go_at_call 29; ((with_reducible refine (HRS.out).mono ?_); rintro e w' ⟨rfl, rfl⟩)))
    go_loopw [32] (fun i wr => ∃ k : Nat, k ≤ n ∧ i = .int .i64 k ∧ Below W.heap.size W wr) (fun i _ => n - (intOf i).toNat)
    case atStart => exact ⟨0, by omega, rfl, Below.refl _ _⟩
    case round =>
      obtain ⟨k, hk, rfl, hbel⟩ := hrel
      have hbs := hbel.size
      by_cases hlt : k < n
      · obtain ⟨b, o, rfl, hb, _, hc⟩ := HR.out.resolve_left (by omega)
        have ck := (hbel.cell (p := ⟨b, _, none⟩) hb).trans (hc k hlt)
        have s1 : ∀ x : Sub wr.heap.size wr, x.w.cell? ⟨b, o + k, none⟩ = some (.int .i64 (z k)) := Sub.cell ck (Nat.lt_of_lt_of_le hb hbs)
        clear hc ck
        have hv1 := fun w => Valid_any (z k) w
        have hv2 := fun w => rValid_any (z k) w
        have k1 : (0 : Int) ≤ (k : Int) := by omega
        have k2 : (k : Int) < (n : Int) := by omega
        generalize amB (z k) = bb at hv1 hv2
        have t1 : (bb != bb) = false := by simp
        have HV1 := Lib.hid hv1
        have HV2 := Lib.hid hv2
        clear hv1 hv2
        go_wp2
        refine wp_region_below (by kernel_rfl) (by kernel_rfl) ?_
        repeat (go_big_quiet_step ((first | (go_at_call 15; exact Sub.ofS _ (HV1.out _)) | (go_at_call 30; exact Sub.ofS _ (HV2.out _)))))
        refine wpQuiet_nil ?_
        rintro w2 ⟨⟨_, hb2⟩, rfl⟩
        go_wp2
        go_roundw
        case rel => exact ⟨k + 1, hlt, by go_num, hbel.trans (hb2.mono hbs)⟩
        case measure => simp [intOf]; omega
      · obtain rfl : k = n := by omega
        go_wp2_with (go_at_call 14; ((with_reducible refine (mawake_any _ (HT.out.grow hbel)).mono ?_); rintro e w1 ⟨rfl, hb1⟩))
        go_ret
        exact ⟨rfl, hbel.trans (hb1.mono hbs)⟩
set_option maxHeartbeats 2000000 in
theorem moneyDivides_walk (m : Int) (a : Option Addr) (n cap : Nat) (z : Nat → Int) (W : World) (_ : (Lit.int .i64 m).wf = true) (hz : IsRow W a n z ∧ n ≤ cap) (hp : P10 W) :
    Calls Tryd.prog 3 #[.int .i64 m, .slice a n cap] W (RetB (.bool true) W) := by
  have HT := Lib.hid hp
  have HR := Lib.hid hz.1
  clear hp hz
  by_cases hs : splE m n z = 0
  · have HK := Lib.hid (sok_of hs)
    clear hs
    have H1 := Lib.hid (fun w hr => Split_ok m a n cap z w hr HK.out)
    have H2 := Lib.hid (fun w hr => rSplit_ok m a n cap z w hr HK.out)
    go_enter Tryd.func3, Tryd.ntmps3
    go_wp2_with (first
      | (go_at_call 11; ((with_reducible refine (H1.out _ HR.out).mono ?_); rintro e w1 ⟨hb1, b1, c1, P, rfl, r1, s1⟩; have HR1 := Lib.hid r1; have HS1 := Lib.hid s1; have HB1 := Lib.hid hb1; clear r1 s1 hb1))
      | (go_at_call 12; ((with_reducible refine (H2.out _ (HR.out.below HB1.out (Nat.le_refl _))).mono ?_); rintro e w2 ⟨hb2, b2, c2, P', rfl, r2, s2⟩; have HR2 := Lib.hid r2; have HS2 := Lib.hid s2; have HQ := Lib.hid hb2; have HB2 := Lib.hid (HB1.out.trans (hb2.mono HB1.out.size)); clear r2 s2 hb2))
      | (go_at_call 13; ((with_reducible refine (same_any _ _ n _ _ P P' _ (HR1.out.below HQ.out (Nat.le_refl _)) HR2.out (IsSpl.unique HS1.out HS2.out)).mono ?_); rintro e w3 ⟨rfl, hb3⟩; have HB3 := Lib.hid (HB2.out.trans (hb3.mono HB2.out.size)); clear hb3))
      | (go_at_call 14; ((with_reducible refine (mawake_any _ (HT.out.grow HB3.out)).mono ?_); rintro e w4 ⟨rfl, hb4⟩; have HB4 := Lib.hid (HB3.out.trans (hb4.mono HB3.out.size)); clear hb4)))
    go_ret
    exact ⟨rfl, HB4.out⟩
  · have H1 := Lib.hid (fun w hr => Split_err m a n cap z w hr hs)
    have H2 := Lib.hid (fun w hr => rSplit_err m a n cap z w hr hs)
    have HZZ := Lib.hid (fun w => same_any none none 0 0 0 (fun _ => 0) (fun _ => 0) w (.inl rfl) (.inl rfl) (fun _ _ => rfl))
    generalize splE m n z = E at *
    clear hs
    go_enter Tryd.func3, Tryd.ntmps3
    go_wp2_with (first
      | (go_at_call 11; ((with_reducible refine (H1.out _ HR.out).mono ?_); rintro e w1 ⟨rfl, hb1⟩; have HB1 := Lib.hid hb1; clear hb1))
      | (go_at_call 12; ((with_reducible refine (H2.out _ (HR.out.below HB1.out (Nat.le_refl _))).mono ?_); rintro e w2 ⟨rfl, hb2⟩; have HB2 := Lib.hid (HB1.out.trans (hb2.mono HB1.out.size)); clear hb2))
      | (go_at_call 13; ((with_reducible refine (HZZ.out _).mono ?_); rintro e w3 ⟨rfl, hb3⟩; have HB3 := Lib.hid (HB2.out.trans (hb3.mono HB2.out.size)); clear hb3))
      | (go_at_call 14; ((with_reducible refine (mawake_any _ (HT.out.grow HB3.out)).mono ?_); rintro e w4 ⟨rfl, hb4⟩; have HB4 := Lib.hid (HB3.out.trans (hb4.mono HB3.out.size)); clear hb4)))
    go_ret
    exact ⟨rfl, HB4.out⟩
theorem mwf_int {a : Int} (h : (Lit.int .i64 a).wf = true) : -9223372036854775808 ≤ a ∧ a ≤ 9223372036854775807 := by
  have h1 : IntKind.i64.min ≤ a ∧ a ≤ IntKind.i64.max := by simpa [Lit.wf] using h
  exact h1
set_option maxHeartbeats 2000000 in
set_option maxRecDepth 100000 in
theorem moneyTakes_walk (m b u : Int) (W : World) (_ : (Lit.int .i64 m).wf = true) (_ : (Lit.int .i64 b).wf = true) (hu : (Lit.int .i64 u).wf = true) (hp : P10 W) :
    Calls Tryd.prog 9 #[.int .i64 m, .int .i64 b, .int .i64 u] W (RetB (.bool true) W) := by
  have HT := Lib.hid hp
  have hu1 := (mwf_int hu).2
  have HE := Lib.hid (fun w => Even_any m u w hu1)
  have HRE := Lib.hid (fun w => rEven_any m u w hu1)
  have hbel := Below.refl W.heap.size W
  clear hp hu
  go_enter Tryd.func9, Tryd.ntmps9
  go_wp2_with (first | (go_at_call 24; ((with_reducible refine (Part_any _ _ _).mono ?_); rintro e w' ⟨rfl, rfl⟩)) | (go_at_call 25; ((with_reducible refine (rPart_any _ _ _).mono ?_); rintro e w' ⟨rfl, rfl⟩)) | (go_at_call 21; ((with_reducible refine (Round_any _ _ _).mono ?_); rintro e w1 ⟨rfl, hb1⟩; replace hbel := hbel.trans (hb1.mono hbel.size); clear hb1)) | (go_at_call 26; ((with_reducible refine (rRound_any _ _ _).mono ?_); rintro e w1 ⟨rfl, hb1⟩; replace hbel := hbel.trans (hb1.mono hbel.size); clear hb1)) | (go_at_call 23; ((with_reducible refine (HE.out _).mono ?_); rintro e w1 ⟨rfl, hb1⟩; replace hbel := hbel.trans (hb1.mono hbel.size); clear hb1)) | (go_at_call 27; ((with_reducible refine (HRE.out _).mono ?_); rintro e w1 ⟨rfl, hb1⟩; replace hbel := hbel.trans (hb1.mono hbel.size); clear hb1)) | (go_at_call 14; ((with_reducible refine (mawake_any _ (HT.out.grow hbel)).mono ?_); rintro e w1 ⟨rfl, hb1⟩; replace hbel := hbel.trans (hb1.mono hbel.size); clear hb1)))
  go_ret
  exact ⟨rfl, hbel⟩
end Go.Proofs.YtkpmbkkhdhjbnaaDoor
