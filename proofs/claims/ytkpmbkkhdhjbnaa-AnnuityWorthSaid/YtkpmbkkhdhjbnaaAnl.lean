/- The laws AnnuityPlans, AnnuityCashes: their walks. -/
import Derived.Test.YtkpmbkkhdhjbnaaAnf
import Derived.Deep.Slices
import Derived.Deep.Fields
import Derived.ChangeSame
import Derived.OpenShut
namespace Go.Proofs.Ytkpmbkkhdhjbnaa
open Go.ChangeShapes Go.WideShapes Go.ChangeAt Go.RowKit Go.Lott
open Go.Lott.Spl
section
variable {H : Type} {enc : TypeId × Value → H} {P : Program} {w : World} {spare : Nat → Bool} {held : Bool}
/-- Out of the reading of a slice of numbers: the row. -/
theorem isRow_of_trod {t e : TypeId} {a : Option Addr} {len cap : Nat} {d : DataW H} {p : List MemPlace} (ht : P.underlying t = some (.slice e)) (he : P.underlying e = some (.int .i64)) (hC : P.cellsOf e = 1)
    (h : DataW.Trod enc P w 0 spare held t (.slice a len cap) d p) : ∃ z, IsRow w a len z ∧ len ≤ cap := by
  obtain ⟨fuel, hf⟩ := h
  by_cases h0 : len = 0
  · exact ⟨fun _ => 0, .inl h0, by omega⟩
  rcases Go.Deep.open_slice ht hf with ⟨hcs, _⟩ | ⟨ad, len', cap', m, q, D, Pl, hcs, hb, hl, hm, hmm, hx, hi'⟩
  · simp [Value.cells] at hcs; omega
  · simp [Value.cells] at hcs
    obtain ⟨rfl, rfl, rfl⟩ := hcs
    have hlm : len ≤ m := by rw [hmm]; split <;> omega
    have key : ∀ i, ∃ v, i < len → w.cell? (ad.add i) = some (.int .i64 v) := by
      intro i
      by_cases hij : i < len
      · obtain ⟨cs', hc, ht'⟩ := hi' i (by omega)
        rw [hC] at hc
        obtain ⟨_, hcl, hat⟩ := World.cells?_some hc
        obtain ⟨v, hv, _⟩ := DataW.trod_int he ht'
        have hv0 : cs'[0]? = some (.int .i64 v) := by rw [hv]; rfl
        refine ⟨v, fun _ => ?_⟩
        have := hat 0 (by omega)
        rw [hv0] at this
        rw [← this]
        congr 1
        rw [Go.Deep.add_add, Nat.mul_one, Nat.add_zero]
      · exact ⟨0, fun h1 => (hij h1).elim⟩
    obtain ⟨b, o, spot⟩ := ad
    obtain ⟨v0, hv0⟩ := key 0
    have hv0 := hv0 (by omega)
    have hspot : spot = none := by simpa [Addr.add] using World.cell?_spot hv0
    subst hspot
    have hblt : b < w.heap.size := by simpa [Addr.add] using World.block_lt_of_cell? w _ hv0
    refine ⟨fun i => (key i).choose, .inr ⟨b, o, rfl, hblt, by omega, fun i hi => ?_⟩, hl⟩
    have := (key i).choose_spec hi
    have ea : Addr.add ⟨b, o, none⟩ i = ⟨b, o + i, none⟩ := by
      unfold Addr.add
      by_cases h : i = 0
      · subst h; simp
      · simp [h]
    exact (congrArg w.cell? ea).symm.trans this
end
theorem pay_ok {m g : Int} {n : Nat} (h : PB m n g) (w : World) : Calls Try.prog 14 #[.int .i64 m, .int .i64 n, .int .i64 g] w fun e w' =>
    Below w.heap.size w w' ∧ ∃ b cap P, e = .returned (.tuple #[.slice (some ⟨b, 0, none⟩) n cap, .int .i64 0]) ∧ IsRow w' (some ⟨b, 0, none⟩) n P ∧ IsSpl m n (wt g) P := by
  refine (Pays_any m n g w).mono fun e w' hx => ?_
  obtain ⟨hb, ⟨n', hn, _, h2⟩ | ⟨hne, _⟩⟩ := hx
  · obtain rfl : n' = n := by omega
    exact ⟨hb, h2⟩
  · exact absurd h hne
theorem pay_bad {m y g : Int} (h : ¬ PB m y g) (w : World) : Calls Try.prog 14 #[.int .i64 m, .int .i64 y, .int .i64 g] w (RetB (.tuple #[.slice none 0 0, .int .i64 2]) w) := by
  refine (Pays_any m y g w).mono fun e w' hx => ?_
  obtain ⟨hb, ⟨n', rfl, h1, _⟩ | ⟨_, he⟩⟩ := hx
  · exact absurd h1 h
  · exact ⟨he, hb⟩
theorem rpay_ok {m g : Int} {n : Nat} (h : PB m n g) (w : World) : Calls Try.prog 15 #[.int .i64 m, .int .i64 n, .int .i64 g] w fun e w' =>
    Below w.heap.size w w' ∧ ∃ b cap P, e = .returned (.tuple #[.slice (some ⟨b, 0, none⟩) n cap, .int .i64 0]) ∧ IsRow w' (some ⟨b, 0, none⟩) n P ∧ IsSpl m n (wt g) P := by
  refine (rPays_any m n g w).mono fun e w' hx => ?_
  obtain ⟨hb, ⟨n', hn, _, h2⟩ | ⟨hne, _⟩⟩ := hx
  · obtain rfl : n' = n := by omega
    exact ⟨hb, h2⟩
  · exact absurd h hne
theorem rpay_bad {m y g : Int} (h : ¬ PB m y g) (w : World) : Calls Try.prog 15 #[.int .i64 m, .int .i64 y, .int .i64 g] w (RetB (.tuple #[.slice none 0 0, .int .i64 2]) w) := by
  refine (rPays_any m y g w).mono fun e w' hx => ?_
  obtain ⟨hb, ⟨n', rfl, h1, _⟩ | ⟨_, he⟩⟩ := hx
  · exact absurd h1 h
  · exact ⟨he, hb⟩
set_option maxRecDepth 100000 in
set_option maxHeartbeats 2000000 in
theorem annuityPlans_walk (m y g : Int) (W : World) (_ : (Lit.int .i64 m).wf = true) (_ : (Lit.int .i64 y).wf = true) (_ : (Lit.int .i64 g).wf = true) :
    Calls Try.prog 3 #[.int .i64 m, .int .i64 y, .int .i64 g] W (RetB (.bool true) W) := by
  have HAW := Lib.hid awake_any
  by_cases h : PB m y g
  · obtain ⟨n, rfl⟩ := Int.eq_ofNat_of_zero_le (show 0 ≤ y by have := h.2.1; omega)
    have H1 := Lib.hid (pay_ok h)
    have H2 := Lib.hid (rpay_ok h)
    clear h
    go_enter Try.func3, Try.ntmps3
    go_wp2_with (first
      | (go_at_call 14; ((with_reducible refine (H1.out _).mono ?_); rintro e w1 ⟨hb1, b1, c1, P, rfl, r1, s1⟩; have HR1 := Lib.hid r1; have HS1 := Lib.hid s1; have HB1 := Lib.hid hb1; clear r1 s1 hb1))
      | (go_at_call 15; ((with_reducible refine (H2.out _).mono ?_); rintro e w2 ⟨hb2, b2, c2, P', rfl, r2, s2⟩; have HR2 := Lib.hid r2; have HS2 := Lib.hid s2; have HB2 := Lib.hid hb2; clear r2 s2 hb2))
      | (go_at_call 16; ((with_reducible refine (same_any _ _ n _ _ P P' _ (HR1.out.below HB2.out (Nat.le_refl _)) HR2.out (IsSpl.unique HS1.out HS2.out)).mono ?_); rintro e w3 ⟨rfl, hb3⟩; have HB3 := Lib.hid hb3; clear hb3))
      | (go_at_call 17; ((with_reducible refine (HAW.out _).mono ?_); rintro e w4 ⟨rfl, hb4⟩; have HB4 := Lib.hid hb4; clear hb4)))
    go_ret
    have x2 := HB1.out.trans (HB2.out.mono HB1.out.size)
    have x3 := x2.trans (HB3.out.mono x2.size)
    exact ⟨rfl, x3.trans (HB4.out.mono x3.size)⟩
  · have H1 := Lib.hid (pay_bad h)
    have HZZ := Lib.hid (fun w => same_any none none 0 0 0 (fun _ => 0) (fun _ => 0) w (.inl rfl) (.inl rfl) (fun _ _ => rfl))
    have H2 := Lib.hid (rpay_bad h)
    clear h
    go_enter Try.func3, Try.ntmps3
    go_wp2_with (first
      | (go_at_call 14; ((with_reducible refine (H1.out _).mono ?_); rintro e w1 ⟨rfl, hb1⟩; have HB1 := Lib.hid hb1; clear hb1))
      | (go_at_call 15; ((with_reducible refine (H2.out _).mono ?_); rintro e w2 ⟨rfl, hb2⟩; have HB2 := Lib.hid hb2; clear hb2))
      | (go_at_call 16; ((with_reducible refine (HZZ.out _).mono ?_); rintro e w3 ⟨rfl, hb3⟩; have HB3 := Lib.hid hb3; clear hb3))
      | (go_at_call 17; ((with_reducible refine (HAW.out _).mono ?_); rintro e w4 ⟨rfl, hb4⟩; have HB4 := Lib.hid hb4; clear hb4)))
    go_ret
    have x2 := HB1.out.trans (HB2.out.mono HB1.out.size)
    have x3 := x2.trans (HB3.out.mono x2.size)
    exact ⟨rfl, x3.trans (HB4.out.mono x3.size)⟩
set_option maxRecDepth 100000 in
set_option maxHeartbeats 2000000 in
theorem annuityCashes_walk (a : Option Addr) (len cap : Nat) (z : Nat → Int) (r p : Int) (W : World) (hz : IsRow W a len z ∧ len ≤ cap) (_ : (Lit.int .i64 r).wf = true) (_ : (Lit.int .i64 p).wf = true) :
    Calls Try.prog 4 #[.slice a len cap, .int .i64 r, .int .i64 p] W (RetB (.bool true) W) := by
  have HAW := Lib.hid awake_any
  have HZ := Lib.hid hz
  clear hz
  by_cases hl : 1000 < len
  · have hl' : (1000 : Int) < (len : Int) := by omega
    go_enter Try.func4, Try.ntmps4
    go_wp2_with (go_at_call 17; ((with_reducible refine (HAW.out _).mono ?_); rintro e w4 ⟨rfl, hb4⟩; have HB4 := Lib.hid hb4; clear hb4))
    go_ret
    exact ⟨rfl, HB4.out⟩
  · have hl' : (len : Int) ≤ 1000 := by omega
    have hm : len ≤ maxLen := by unfold maxLen; omega
    have H1 := Lib.hid (fun w h => Cash_any a len cap z r w h hm)
    have H2 := Lib.hid (fun w h => rCash_any a len cap z r w h hm)
    have H3 := Lib.hid (fun w h => Left_any a len cap z p w h hm HZ.out.2)
    have H4 := Lib.hid (fun w h => rLeft_any a len cap z p w h hm HZ.out.2)
    clear hl
    go_enter Try.func4, Try.ntmps4
    go_wp2_with (first
      | (go_at_call 18; ((with_reducible refine (H1.out _ HZ.out.1).mono ?_); rintro e w1 ⟨rfl, hb1⟩; have R1 := Lib.hid (HZ.out.1.below hb1 (Nat.le_refl _)); have HB1 := Lib.hid hb1; clear hb1))
      | (go_at_call 19; ((with_reducible refine (H2.out _ R1.out).mono ?_); rintro e w2 ⟨rfl, hb2⟩; have R2 := Lib.hid (R1.out.below hb2 (Nat.le_refl _)); have HB2 := Lib.hid hb2; clear hb2))
      | (go_at_call 20; ((with_reducible refine (H3.out _ R2.out).mono ?_); rintro e w3 ⟨rfl, rfl⟩))
      | (go_at_call 21; ((with_reducible refine (H4.out _ R2.out).mono ?_); rintro e w3 ⟨rfl, rfl⟩))
      | (go_at_call 17; ((with_reducible refine (HAW.out _).mono ?_); rintro e w4 ⟨rfl, hb4⟩; have HB4 := Lib.hid hb4; clear hb4)))
    go_ret
    have x2 := HB1.out.trans (HB2.out.mono HB1.out.size)
    exact ⟨rfl, x2.trans (HB4.out.mono x2.size)⟩
end Go.Proofs.Ytkpmbkkhdhjbnaa
