/- A share put into its place: the reference. -/
import Derived.Test.YtkpmbkkhdhjbnaaSyi
namespace Go.Lott.Syn
theorem insL_split {x : Sh} : ∀ (l : List Sh) (k : Nat), k ≤ l.length → (∀ j, j < k → zL l j 0 < x.1) → (k < l.length → ¬ zL l k 0 < x.1) → insL x l = l.take k ++ x :: l.drop k
  | [], k, hk, _, _ => by
    obtain rfl : k = 0 := by simpa using hk
    rfl
  | y :: l, 0, _, _, h => by
    have h0 : ¬ y.1 < x.1 := h (by simp)
    show (if y.1 < x.1 then _ else _) = _
    rw [if_neg h0]; rfl
  | y :: l, k + 1, hk, ha, h => by
    have h0 : y.1 < x.1 := ha 0 (by omega)
    have e : ∀ j i, zL (y :: l) (j + 1) i = zL l j i := fun j i => by unfold zL; simp
    show (if y.1 < x.1 then y :: insL x l else _) = _
    rw [if_pos h0, insL_split l k (by simpa using hk) (fun j hj => by have := ha (j + 1) (by omega); rwa [e] at this) (fun hk2 => by have := h (by simpa using hk2); rwa [e] at this)]
    rfl
/-- What is laid of the list and the share: its first j, the share in its place. -/
def outL (l : List Sh) (x : Sh) (k j : Nat) : List Sh := l.take k ++ x :: (l.take j).drop k
theorem outL_start {l : List Sh} {x : Sh} {k : Nat} (hk : k ≤ l.length) : outL l x k k = l.take k ++ [x] := by
  unfold outL
  rw [List.drop_eq_nil_of_le (by rw [List.length_take]; omega)]
theorem outL_next {l : List Sh} {x : Sh} {k j : Nat} (hkj : k ≤ j) (hj : j < l.length) : outL l x k (j + 1) = outL l x k j ++ [(zL l j 0, zL l j 1)] := by
  unfold outL
  rw [List.take_succ_eq_append_getElem hj, List.drop_append_of_le_length (by rw [List.length_take]; omega), zL_get hj]
  simp
theorem outL_end {l : List Sh} {x : Sh} {k : Nat} : outL l x k l.length = l.take k ++ x :: l.drop k := by unfold outL; rw [List.take_length]
theorem outL_length {l : List Sh} {x : Sh} {k j : Nat} (hkj : k ≤ j) (hj : j ≤ l.length) : (outL l x k j).length = j + 1 := by
  unfold outL
  rw [List.length_append, List.length_cons, List.length_drop, List.length_take, List.length_take]; omega
theorem take_snoc {l : List Sh} {k : Nat} (hk : k < l.length) : l.take (k + 1) = l.take k ++ [(zL l k 0, zL l k 1)] := by rw [List.take_succ_eq_append_getElem hk, zL_get hk]
end Go.Lott.Syn
namespace Go.Proofs.Ytkpmbkkhdhjbnaa
open Go.ChangeShapes Go.WideShapes Go.ChangeAt Go.RowKit Go.Lott
open Go.Lott.Syn
theorem owns_below {w w1 : World} {base : Nat} {e : TypeId} {size : Nat} {v : Value} {n : Nat} {xs : List Value} (h : w.ownsRow base e size v n xs) (hb : Below w.heap.size w w1) : w1.ownsRow base e size v n xs := by
  refine ⟨h.1, ?_⟩
  rcases h.2 with h2 | ⟨g, cap, cur, hv, hg, hh, hr⟩
  · exact .inl h2
  · exact .inr ⟨g, cap, cur, hv, hg, by rw [hb.block g (lt_of_block hh)]; exact hh, hr⟩
set_option maxRecDepth 100000 in
set_option maxHeartbeats 4000000 in
theorem rInsert_any (a : Option Addr) (cap : Nat) (L : List Sh) (x1 x2 : Int) (w : World) (hr : IsRows 2 w a L.length (zL L)) (hn : L.length ≤ 1000000) :
    Calls Try.prog 34 #[.slice a L.length cap, .agg #[.int .i64 x1, .int .i64 x2]] w fun e w' =>
      Below w.heap.size w w' ∧ ∃ a' cap', e = .returned (.slice a' (L.length + 1) cap') ∧ IsRows 2 w' a' (L.length + 1) (zL (insL (x1, x2) L)) ∧ L.length + 1 ≤ cap' := by
  have HR := Lib.hid hr
  obtain ⟨e0, he0, hz0, hz1, hz2⟩ := info_parts infoS
  have tok2 : True := trivial
  have HBOX := Lib.hid (fun (b i : Nat) (hb : b < w.heap.size) => (((Below.refl w.heap.size w).alloc (Nat.le_refl _) (.cells #[.int .i64 x1, .int .i64 x2] 46)).cell (p := ⟨b, i, none⟩) hb))
  clear hr
  go_enter Try.func34, Try.ntmps34
  go_wp2
  go_loopw [5, 6] (fun vo vi wr => ∃ (k : Nat) (v8 : Value), v8 = vo ∧ vi = .int .i64 k ∧ k ≤ L.length ∧ wr.ownsRow (w.heap.size + 1) 46 2 v8 k (fl2 (L.take k)) ∧ (∀ j, j < k → zL L j 0 < x1) ∧ Below (w.heap.size + 1) (w.alloc (.cells #[.int .i64 x1, .int .i64 x2] 46)) wr) (fun _ vi _ => L.length - (intOf vi).toNat)
  case atStart => exact ⟨0, .slice none 0 0, rfl, rfl, by omega, ⟨rfl, .inl ⟨rfl, rfl⟩⟩, fun j hj => by omega, Below.refl _ _⟩
  case round =>
    obtain ⟨k, v8, rfl, rfl, hk, o8, ha, hbel⟩ := hrel
    have O8 := Lib.hid o8
    have HA := Lib.hid ha
    have hbs : w.heap.size + 1 ≤ wr.heap.size := by have := hbel.size; simp at this; omega
    have hsx : w.heap.size < wr.heap.size := hbs
    have cx0 : wr.cell? ⟨w.heap.size, 0, none⟩ = some (.int .i64 x1) := (hbel.cell (p := ⟨w.heap.size, 0, none⟩) (by show w.heap.size < w.heap.size + 1; omega)).trans (by simp)
    have cx1 : wr.cell? ⟨w.heap.size, 1, none⟩ = some (.int .i64 x2) := (hbel.cell (p := ⟨w.heap.size, 1, none⟩) (by show w.heap.size < w.heap.size + 1; omega)).trans (by simp)
    clear o8 ha
    have s0 : ∀ x : Sub wr.heap.size wr, x.w.cell? ⟨w.heap.size, 0, none⟩ = some (.int .i64 x1) := Sub.cell cx0 hsx
    by_cases hlt : k < L.length
    · obtain ⟨b, o, rfl, hbb, _, hcell⟩ := HR.out.resolve_left (by omega)
      have c0 : wr.cell? ⟨b, o + k * 2, none⟩ = some (.int .i64 (zL L k 0)) := (hbel.cell (p := ⟨b, _, none⟩) (by show b < w.heap.size + 1; omega)).trans ((HBOX.out b _ hbb).trans (hcell k 0 hlt (by omega)))
      have c1 : wr.cell? ⟨b, o + k * 2 + 1, none⟩ = some (.int .i64 (zL L k 1)) := (hbel.cell (p := ⟨b, _, none⟩) (by show b < w.heap.size + 1; omega)).trans ((HBOX.out b _ hbb).trans (hcell k 1 hlt (by omega)))
      have s1 : ∀ x : Sub wr.heap.size wr, x.w.cell? ⟨b, o + k * 2, none⟩ = some (.int .i64 (zL L k 0)) := Sub.cell c0 (by show b < wr.heap.size; omega)
      have k1 : (0 : Int) ≤ (k : Int) := by omega
      have k2 : (k : Int) < (L.length : Int) := by omega
      have k3 : decide ((k : Int) < (L.length : Int)) = true := decide_eq_true k2
      by_cases hlx : zL L k 0 < x1
      · have l1 : decide (zL L k 0 < x1) = true := decide_eq_true hlx
        have HLX := Lib.hid hlx
        clear hlx hcell
        go_wp2
        refine wp_region_below (by kernel_rfl) (by kernel_rfl) ?_
        repeat (go_big_quiet_step (fail))
        refine wpQuiet_nil ?_
        rintro w2 ⟨⟨_, hb2⟩, rfl⟩
        have hbel2 := hbel.trans (hb2.mono hbs)
        have hbs2 : w.heap.size + 1 ≤ w2.heap.size := by have := hbel2.size; simp at this; omega
        have HO2 := Lib.hid (owns_below O8.out hb2)
        have cx2 : ∀ i, w2.cell? ⟨w.heap.size, i, none⟩ = wr.cell? ⟨w.heap.size, i, none⟩ := fun i => hb2.cell (p := ⟨w.heap.size, i, none⟩) (by show w.heap.size < wr.heap.size; omega)
        have d0 := (cx2 0).trans cx0
        have d1 := (cx2 1).trans cx1
        clear cx2
        have e0' : w2.cell? ⟨b, o + k * 2, none⟩ = some (.int .i64 (zL L k 0)) := (hb2.cell (p := ⟨b, _, none⟩) (by show b < wr.heap.size; omega)).trans c0
        have e1' : w2.cell? ⟨b, o + k * 2 + 1, none⟩ = some (.int .i64 (zL L k 1)) := (hb2.cell (p := ⟨b, _, none⟩) (by show b < wr.heap.size; omega)).trans c1
        have hsx2 : w.heap.size < w2.heap.size := Nat.lt_of_lt_of_le hsx hb2.size
        have HN := Lib.hid (take_snoc hlt)
        clear s0 s1 c0 c1
        have hh := heap_alloc_new w2 (.cells #[.int .i64 (zL L k 0), .int .i64 (zL L k 1)] 46)
        have HH := Lib.hid hh
        have hkb : (k + 1) * 16 ≤ 140737488355328 := by omega
        have hkm : k + 1 ≤ maxLen := by unfold maxLen; omega
        have hbz : w.heap.size + 1 ≤ ((w2).alloc (.cells #[.int .i64 (zL L k 0), .int .i64 (zL L k 1)] 46)).heap.size := by simp; omega
        clear hh
        go_wp2_with (at_builtin; have _t := tok2; refine wpList_append_lies _ rfl _ _ 35 rfl (w.heap.size + 1) 46 e0 (.agg #[.int .i64 0, .int .i64 0]) 2 16 Try.underlying35 he0 hz0 hz1 hz2 rfl (by decide) v8 (k) (fl2 (L.take k)) (by rfl) ((HO2.out).alloc _) ⟨(w2).heap.size, 0, none⟩ 1 1 [.int .i64 (zL L k 0), .int .i64 (zL L k 1)] (by rfl) (by rfl) (World.news_of_block (cs := #[.int .i64 (zL L k 0), .int .i64 (zL L k 1)]) (t := 46) (fr := (0, 0)) HH.out) (by simp [Value.oneCell']) (by omega) hkm hkb hbz ((w2).heap.size + 1) (by simp) ?_; intro g8 c8 w3 own8 gr8 at8 lt8; clear tok2)
        have hb3 := ((hbel2.alloc hbs2 (.cells #[.int .i64 (zL L k 0), .int .i64 (zL L k 1)] 46))).grown gr8 hbz (own_ge (HO2.out))
        have H8 := Lib.hid own8
        clear own8 gr8 at8 lt8
        go_roundw
        case rel => exact ⟨k + 1, _, rfl, by go_num, hlt, by rw [HN.out, fl2_snoc]; exact H8.out, fun j hj => by
          rcases Nat.lt_or_ge j k with c | c
          · exact HA.out j c
          · obtain rfl : j = k := by omega
            exact HLX.out, hb3⟩
        case measure => simp [intOf]; omega
      · have l1 : decide (zL L k 0 < x1) = false := decide_eq_false hlx
        have HSTOP : Hid (k < L.length → ¬ zL L k 0 < x1) := Lib.hid (fun _ => hlx)
        have HCL := Lib.hid hcell
        clear hcell
        go_wp2
        refine wp_region_below (by kernel_rfl) (by kernel_rfl) ?_
        repeat (go_big_quiet_step (fail))
        refine wpQuiet_nil ?_
        rintro w2 ⟨⟨_, hb2⟩, rfl⟩
        have hbel2 := hbel.trans (hb2.mono hbs)
        have hbs2 : w.heap.size + 1 ≤ w2.heap.size := by have := hbel2.size; simp at this; omega
        have HO2 := Lib.hid (owns_below O8.out hb2)
        have cx2 : ∀ i, w2.cell? ⟨w.heap.size, i, none⟩ = wr.cell? ⟨w.heap.size, i, none⟩ := fun i => hb2.cell (p := ⟨w.heap.size, i, none⟩) (by show w.heap.size < wr.heap.size; omega)
        have d0 := (cx2 0).trans cx0
        have d1 := (cx2 1).trans cx1
        clear cx2
        have HR2 := HR
        clear s0 s1 c0 c1 hlx
        have HSPL := Lib.hid (insL_split (x := (x1, x2)) L k hk HA.out (fun h => by have := HSTOP.out h; show ¬ zL L k 0 < x1; omega))
        clear HSTOP
        have HO0 := Lib.hid (outL_start (x := (x1, x2)) hk)
        have HLT := Lib.hid (show (L.take k).length = k by rw [List.length_take]; omega)
        have hh := heap_alloc_new w2 (.cells #[.int .i64 (x1), .int .i64 (x2)] 46)
        have HH := Lib.hid hh
        have hkb : (k + 1) * 16 ≤ 140737488355328 := by omega
        have hkm : k + 1 ≤ maxLen := by unfold maxLen; omega
        have hbz : w.heap.size + 1 ≤ ((w2).alloc (.cells #[.int .i64 (x1), .int .i64 (x2)] 46)).heap.size := by simp; omega
        clear hh
        go_wp2_with (at_builtin; have _t := tok2; refine wpList_append_lies _ rfl _ _ 35 rfl (w.heap.size + 1) 46 e0 (.agg #[.int .i64 0, .int .i64 0]) 2 16 Try.underlying35 he0 hz0 hz1 hz2 rfl (by decide) v8 (k) (fl2 (L.take k)) (by rfl) ((HO2.out).alloc _) ⟨(w2).heap.size, 0, none⟩ 1 1 [.int .i64 (x1), .int .i64 (x2)] (by rfl) (by rfl) (World.news_of_block (cs := #[.int .i64 (x1), .int .i64 (x2)]) (t := 46) (fr := (0, 0)) HH.out) (by simp [Value.oneCell']) (by omega) hkm hkb hbz ((w2).heap.size + 1) (by simp) ?_; intro g8 c8 w3 own8 gr8 at8 lt8; clear tok2)
        have hb3 := ((hbel2.alloc hbs2 (.cells #[.int .i64 x1, .int .i64 x2] 46))).grown gr8 hbz (own_ge (HO2.out))
        have H8 := Lib.hid own8
        clear own8 gr8 at8 lt8
        have HW3 := Lib.hid hb3
        go_loopw [5, 6] (fun vo vi wr => ∃ (j : Nat) (v8 : Value), v8 = vo ∧ vi = .int .i64 j ∧ k ≤ j ∧ j ≤ L.length ∧ wr.ownsRow (w.heap.size + 1) 46 2 v8 (j + 1) (fl2 (outL L (x1, x2) k j)) ∧ Below (w.heap.size + 1) (w.alloc (.cells #[.int .i64 x1, .int .i64 x2] 46)) wr) (fun _ vi _ => L.length - (intOf vi).toNat)
        case atStart => exact ⟨k, _, rfl, rfl, Nat.le_refl _, hk, by rw [HO0.out, fl2_snoc]; exact H8.out, HW3.out⟩
        case round =>
          obtain ⟨j, v8, rfl, rfl, hkj, hj, o8, hbel4⟩ := hrel
          have O9 := Lib.hid o8
          have hbs4 : w.heap.size + 1 ≤ wr.heap.size := by have := hbel4.size; simp at this; omega
          have tok2 : True := trivial
          clear o8
          by_cases hlt2 : j < L.length
          · have c0 : wr.cell? ⟨b, o + j * 2, none⟩ = some (.int .i64 (zL L j 0)) := (hbel4.cell (p := ⟨b, _, none⟩) (by show b < w.heap.size + 1; omega)).trans ((HBOX.out b _ hbb).trans (HCL.out j 0 hlt2 (by omega)))
            have c1 : wr.cell? ⟨b, o + j * 2 + 1, none⟩ = some (.int .i64 (zL L j 1)) := (hbel4.cell (p := ⟨b, _, none⟩) (by show b < w.heap.size + 1; omega)).trans ((HBOX.out b _ hbb).trans (HCL.out j 1 hlt2 (by omega)))
            have HN := Lib.hid (outL_next (x := (x1, x2)) hkj hlt2)
            have j1 : (0 : Int) ≤ (j : Int) := by omega
            have j2 : (j : Int) < (L.length : Int) := by omega
            have hh := heap_alloc_new wr (.cells #[.int .i64 (zL L j 0), .int .i64 (zL L j 1)] 46)
            have HH := Lib.hid hh
            have hkb : (j + 1 + 1) * 16 ≤ 140737488355328 := by omega
            have hkm : j + 1 + 1 ≤ maxLen := by unfold maxLen; omega
            have hbz : w.heap.size + 1 ≤ ((wr).alloc (.cells #[.int .i64 (zL L j 0), .int .i64 (zL L j 1)] 46)).heap.size := by simp; omega
            clear hh
            go_wp2_with (at_builtin; have _t := tok2; refine wpList_append_lies _ rfl _ _ 35 rfl (w.heap.size + 1) 46 e0 (.agg #[.int .i64 0, .int .i64 0]) 2 16 Try.underlying35 he0 hz0 hz1 hz2 rfl (by decide) v8 (j + 1) (fl2 (outL L (x1, x2) k j)) (by rfl) ((O9.out).alloc _) ⟨(wr).heap.size, 0, none⟩ 1 1 [.int .i64 (zL L j 0), .int .i64 (zL L j 1)] (by rfl) (by rfl) (World.news_of_block (cs := #[.int .i64 (zL L j 0), .int .i64 (zL L j 1)]) (t := 46) (fr := (0, 0)) HH.out) (by simp [Value.oneCell']) (by omega) hkm hkb hbz ((wr).heap.size + 1) (by simp) ?_; intro g8 c8 w3 own8 gr8 at8 lt8; clear tok2)
            have hb3 := ((hbel4.alloc hbs4 (.cells #[.int .i64 (zL L j 0), .int .i64 (zL L j 1)] 46))).grown gr8 hbz (own_ge (O9.out))
            have H8 := Lib.hid own8
            clear own8 gr8 at8 lt8
            go_roundw
            case rel => exact ⟨j + 1, _, rfl, by go_num, by omega, by omega, by rw [HN.out, fl2_snoc]; exact H8.out, hb3⟩
            case measure => simp [intOf]; omega
          · obtain rfl : j = L.length := by omega
            obtain ⟨g8, c8, rfl, hg8, hl8⟩ := O9.out.form (by omega)
            have HRW := Lib.hid (rw2_of_owns (l := outL L (x1, x2) k L.length) (by rw [outL_length hkj (Nat.le_refl _)]) O9.out)
            have HL := Lib.hid (outL_length (x := (x1, x2)) hkj (Nat.le_refl L.length))
            have HX := Lib.hid (show outL L (x1, x2) k L.length = insL (x1, x2) L by rw [outL_end, HSPL.out])
            go_wp2
            go_ret
            have hr := IsRows.of_rw2 HRW.out (by rw [HL.out]; unfold maxLen; omega)
            rw [HL.out, HX.out] at hr
            exact ⟨((Below.refl _ _).alloc (Nat.le_refl _) _).trans (hbel4.mono (by omega)), some ⟨g8, 0, none⟩, c8, rfl, hr, own_cap O9.out⟩
    · have k3 : decide ((k : Int) < (L.length : Int)) = false := decide_eq_false (by omega)
      have HSTOP : Hid (k < L.length → ¬ zL L k 0 < x1) := Lib.hid (fun h => absurd h hlt)
      go_wp2
      refine wp_region_below (by kernel_rfl) (by kernel_rfl) ?_
      repeat (go_big_quiet_step (fail))
      refine wpQuiet_nil ?_
      rintro w2 ⟨⟨_, hb2⟩, rfl⟩
      have hbel2 := hbel.trans (hb2.mono hbs)
      have hbs2 : w.heap.size + 1 ≤ w2.heap.size := by have := hbel2.size; simp at this; omega
      have HO2 := Lib.hid (owns_below O8.out hb2)
      have cx2 : ∀ i, w2.cell? ⟨w.heap.size, i, none⟩ = wr.cell? ⟨w.heap.size, i, none⟩ := fun i => hb2.cell (p := ⟨w.heap.size, i, none⟩) (by show w.heap.size < wr.heap.size; omega)
      have d0 := (cx2 0).trans cx0
      have d1 := (cx2 1).trans cx1
      clear cx2
      clear s0
      have HSPL := Lib.hid (insL_split (x := (x1, x2)) L k hk HA.out (fun h => by have := HSTOP.out h; show ¬ zL L k 0 < x1; omega))
      clear HSTOP
      have HO0 := Lib.hid (outL_start (x := (x1, x2)) hk)
      have HLT := Lib.hid (show (L.take k).length = k by rw [List.length_take]; omega)
      have hh := heap_alloc_new w2 (.cells #[.int .i64 (x1), .int .i64 (x2)] 46)
      have HH := Lib.hid hh
      have hkb : (k + 1) * 16 ≤ 140737488355328 := by omega
      have hkm : k + 1 ≤ maxLen := by unfold maxLen; omega
      have hbz : w.heap.size + 1 ≤ ((w2).alloc (.cells #[.int .i64 (x1), .int .i64 (x2)] 46)).heap.size := by simp; omega
      clear hh
      go_wp2_with (at_builtin; have _t := tok2; refine wpList_append_lies _ rfl _ _ 35 rfl (w.heap.size + 1) 46 e0 (.agg #[.int .i64 0, .int .i64 0]) 2 16 Try.underlying35 he0 hz0 hz1 hz2 rfl (by decide) v8 (k) (fl2 (L.take k)) (by rfl) ((HO2.out).alloc _) ⟨(w2).heap.size, 0, none⟩ 1 1 [.int .i64 (x1), .int .i64 (x2)] (by rfl) (by rfl) (World.news_of_block (cs := #[.int .i64 (x1), .int .i64 (x2)]) (t := 46) (fr := (0, 0)) HH.out) (by simp [Value.oneCell']) (by omega) hkm hkb hbz ((w2).heap.size + 1) (by simp) ?_; intro g8 c8 w3 own8 gr8 at8 lt8; clear tok2)
      have hb3 := ((hbel2.alloc hbs2 (.cells #[.int .i64 x1, .int .i64 x2] 46))).grown gr8 hbz (own_ge (HO2.out))
      have H8 := Lib.hid own8
      clear own8 gr8 at8 lt8
      have HW3 := Lib.hid hb3
      go_loopw [5, 6] (fun vo vi wr => ∃ (j : Nat) (v8 : Value), v8 = vo ∧ vi = .int .i64 j ∧ k ≤ j ∧ j ≤ L.length ∧ wr.ownsRow (w.heap.size + 1) 46 2 v8 (j + 1) (fl2 (outL L (x1, x2) k j)) ∧ Below (w.heap.size + 1) (w.alloc (.cells #[.int .i64 x1, .int .i64 x2] 46)) wr) (fun _ vi _ => L.length - (intOf vi).toNat)
      case atStart => exact ⟨k, _, rfl, rfl, Nat.le_refl _, hk, by rw [HO0.out, fl2_snoc]; exact H8.out, HW3.out⟩
      case round =>
        obtain ⟨j, v8, rfl, rfl, hkj, hj, o8, hbel4⟩ := hrel
        have O9 := Lib.hid o8
        have hbs4 : w.heap.size + 1 ≤ wr.heap.size := by have := hbel4.size; simp at this; omega
        have tok2 : True := trivial
        clear o8
        by_cases hlt2 : j < L.length
        · exact absurd hlt2 (by omega)
        · obtain rfl : j = L.length := by omega
          obtain ⟨g8, c8, rfl, hg8, hl8⟩ := O9.out.form (by omega)
          have HRW := Lib.hid (rw2_of_owns (l := outL L (x1, x2) k L.length) (by rw [outL_length hkj (Nat.le_refl _)]) O9.out)
          have HL := Lib.hid (outL_length (x := (x1, x2)) hkj (Nat.le_refl L.length))
          have HX := Lib.hid (show outL L (x1, x2) k L.length = insL (x1, x2) L by rw [outL_end, HSPL.out])
          go_wp2
          go_ret
          have hr := IsRows.of_rw2 HRW.out (by rw [HL.out]; unfold maxLen; omega)
          rw [HL.out, HX.out] at hr
          exact ⟨((Below.refl _ _).alloc (Nat.le_refl _) _).trans (hbel4.mono (by omega)), some ⟨g8, 0, none⟩, c8, rfl, hr, own_cap O9.out⟩
end Go.Proofs.Ytkpmbkkhdhjbnaa
