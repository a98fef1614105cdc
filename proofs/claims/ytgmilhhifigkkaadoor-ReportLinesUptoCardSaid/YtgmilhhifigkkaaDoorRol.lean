/- The forms of the laws on draws: a game, a result, an award, handed in by value. -/
import Derived.Test.YtgmilhhifigkkaaDoorRok
import Derived.Test.YtgmilhhifigkkaaDoorRpt
import Derived.Deep.Slices
namespace Go.Proofs.YtgmilhhifigkkaaDoor
open Go.ChangeShapes Go.WideShapes Go.ChangeAt Go.RowKit Go.Lott
open Go.Proofs.YtgmilhhifigkkaaDoor.Rows (uptoBulk uptoBulkAll)
section
variable {H : Type} {enc : TypeId × Value → H} {P : Program} {w : World} {base : Nat} {spare : Nat → Bool} {held : Bool}
theorem one_at {cs : List Value} {o m : Nat} {c : Value} (h : (cs.drop o).take m = [c]) : cs[o]? = some c := by
  have e := congrArg (·[0]?) h
  simp only [List.getElem?_take, List.getElem?_drop, List.getElem?_cons_zero] at e
  split at e
  · simpa using e
  · cases e
/-- A struct's parts: what each field's cells read as. -/
theorem open_parts {t : TypeId} {fs : Array Field} {fuel : Nat} {cs : List Value} {x : DataW H × List MemPlace} (he : P.underlying t = some (.struct fs)) (h : DataW.trod enc P w base spare held fuel t cs = some x) :
    ∃ (k : Nat) (parts : List (DataW H)), x.1 = .agg parts ∧ ∀ (i : Nat) (f : Field), fs[i]? = some f → ∃ y, parts[i]? = some y.1 ∧ DataW.trod enc P w base spare held k f.type ((cs.drop f.offset).take (P.cellsOf f.type)) = some y := by
  obtain ⟨xs, k, _, hx, hlen, hxl, hf⟩ := DataW.trod_struct he h
  refine ⟨k, xs.map (·.1), by rw [hx], fun i f hi => ?_⟩
  have hil : i < fs.size := (Array.getElem?_eq_some_iff.1 hi).1
  have ht := hf i f hi
  rw [List.getElem?_eq_getElem (by omega)] at ht
  exact ⟨xs[i]'(by omega), by rw [List.getElem?_map, List.getElem?_eq_getElem (by omega)]; rfl, ht⟩
theorem int_at {e : TypeId} {k o m : Nat} {cs : List Value} {y : DataW H × List MemPlace} (he : P.underlying e = some (.int .i64)) (h : DataW.trod enc P w base spare held k e ((cs.drop o).take m) = some y) : ∃ v, cs[o]? = some (.int .i64 v) ∧ I64 v := by
  obtain ⟨v, hv, _, hw⟩ := DataW.trod_int he h
  exact ⟨v, one_at hv, i64_of hw⟩
theorem str_at {e : TypeId} {k o m : Nat} {cs : List Value} {y : DataW H × List MemPlace} (he : P.underlying e = some .string) (h : DataW.trod enc P w base spare held k e ((cs.drop o).take m) = some y) : ∃ s : ByteArray, cs[o]? = some (.string s) ∧ y.1 = .lit (.string s.data.toList) := by
  obtain ⟨s, hv, hy, _⟩ := DataW.trod_string he h
  exact ⟨s, one_at hv, by rw [hy]⟩
theorem sl_at {t e : TypeId} {k o m : Nat} {cs : List Value} {y : DataW H × List MemPlace} (ht : P.underlying t = some (.slice e)) (h : DataW.trod enc P w base spare held k t ((cs.drop o).take m) = some y) : ∃ a n c, cs[o]? = some (.slice a n c) := by
  rcases Go.Deep.open_slice ht h with ⟨hcs, _⟩ | ⟨ad, len, cap, _, _, _, _, hcs, _⟩
  · exact ⟨none, 0, 0, one_at hcs⟩
  · exact ⟨some ad, len, cap, one_at hcs⟩
theorem row_at {t e : TypeId} {k o m : Nat} {cs : List Value} {y : DataW H × List MemPlace} (ht : P.underlying t = some (.slice e)) (he : P.underlying e = some (.int .i64)) (hC : P.cellsOf e = 1) (h : DataW.trod enc P w 0 spare held k t ((cs.drop o).take m) = some y) : ∃ a n c z, cs[o]? = some (.slice a n c) ∧ NRow w a n z := by
  obtain ⟨a, n, c, hc⟩ := sl_at ht h
  have h1 : ∃ v, (cs.drop o).take m = [v] := by
    rcases Go.Deep.open_slice ht h with ⟨hcs, _⟩ | ⟨ad, len, cap, _, _, _, _, hcs, _⟩
    · exact ⟨_, hcs⟩
    · exact ⟨_, hcs⟩
  obtain ⟨v, hv⟩ := h1
  have hvc := one_at hv
  rw [hc] at hvc
  obtain rfl := (Option.some.inj hvc).symm
  rw [hv] at h
  obtain ⟨a', n', c', z, hv', hr, _⟩ := nrow_of_trod ht he hC h
  cases hv'
  exact ⟨a, n, c, z, hc, hr⟩
end
theorem bulk_part {H : Type} {d : DataW H} : ∀ {l : List (DataW H)} {i : Nat}, l[i]? = some d → uptoBulk d ≤ uptoBulkAll l
  | [], i, h => by simp at h
  | x :: l, 0, h => by
    obtain rfl : x = d := by simpa using h
    simp only [uptoBulkAll]; omega
  | x :: l, i + 1, h => by
    have := bulk_part (l := l) (i := i) (by simpa using h)
    simp only [uptoBulkAll]; omega
theorem bulk_agg {H : Type} {d : DataW H} {l : List (DataW H)} {s : List UInt8} {i : Nat} (hd : d = .agg l) (h : l[i]? = some (.lit (.string s))) : s.length ≤ uptoBulk d := by
  have h1 := bulk_part h
  rw [hd]
  simp only [uptoBulk] at h1 ⊢
  omega
section
variable {H : Type} {enc : TypeId × Value → H} {w : World} {spare : Nat → Bool} {held : Bool}

theorem open_game {r : Reach} {b0 : Nat} {v : Value} {d : DataW H} {p : List MemPlace} (hv : Value.okWide Tryd.prog w r b0 41 v) (h : DataW.Trod enc Tryd.prog w 0 spare held 41 v d p) :
    ∃ (gn : ByteArray) (y : Nat → Int) (p1 : Option Addr) (q1 r1 : Nat) (p2 : Option Addr) (q2 r2 : Nat), v = .agg #[.string gn, .int .i64 (y 1), .int .i64 (y 2), .int .i64 (y 3), .int .i64 (y 4), .int .i64 (y 5), .int .i64 (y 6), .int .i64 (y 7), .int .i64 (y 8), .int .i64 (y 9), .int .i64 (y 10), .int .i64 (y 11), .int .i64 (y 12), .int .i64 (y 13), .int .i64 (y 14), .int .i64 (y 15), .int .i64 (y 16), .int .i64 (y 17), .int .i64 (y 18), .int .i64 (y 19), .slice p1 q1 r1, .slice p2 q2 r2] ∧ gn.size ≤ uptoBulk d := by
  obtain ⟨cs, rfl, hsz⟩ := okWide_struct Tryd.underlying41 hv
  obtain ⟨fuel, h⟩ := h
  replace h : DataW.trod enc Tryd.prog w 0 spare held fuel _ cs.toList = some (d, p) := h
  obtain ⟨k, parts, hd, hp⟩ := open_parts Tryd.underlying41 h
  obtain ⟨y0, hy0, t0⟩ := hp 0 _ rfl
  obtain ⟨gn, e0, hs0⟩ := str_at Tryd.underlying9 t0
  obtain ⟨_, _, t1⟩ := hp 1 _ rfl
  obtain ⟨x1, e1, _⟩ := int_at Tryd.underlying3 t1
  obtain ⟨_, _, t2⟩ := hp 2 _ rfl
  obtain ⟨x2, e2, _⟩ := int_at Tryd.underlying3 t2
  obtain ⟨_, _, t3⟩ := hp 3 _ rfl
  obtain ⟨x3, e3, _⟩ := int_at Tryd.underlying3 t3
  obtain ⟨_, _, t4⟩ := hp 4 _ rfl
  obtain ⟨x4, e4, _⟩ := int_at Tryd.underlying3 t4
  obtain ⟨_, _, t5⟩ := hp 5 _ rfl
  obtain ⟨x5, e5, _⟩ := int_at Tryd.underlying3 t5
  obtain ⟨_, _, t6⟩ := hp 6 _ rfl
  obtain ⟨x6, e6, _⟩ := int_at Tryd.underlying3 t6
  obtain ⟨_, _, t7⟩ := hp 7 _ rfl
  obtain ⟨x7, e7, _⟩ := int_at Tryd.underlying3 t7
  obtain ⟨_, _, t8⟩ := hp 8 _ rfl
  obtain ⟨x8, e8, _⟩ := int_at Tryd.underlying3 t8
  obtain ⟨_, _, t9⟩ := hp 9 _ rfl
  obtain ⟨x9, e9, _⟩ := int_at Tryd.underlying3 t9
  obtain ⟨_, _, t10⟩ := hp 10 _ rfl
  obtain ⟨x10, e10, _⟩ := int_at Tryd.underlying3 t10
  obtain ⟨_, _, t11⟩ := hp 11 _ rfl
  obtain ⟨x11, e11, _⟩ := int_at Tryd.underlying3 t11
  obtain ⟨_, _, t12⟩ := hp 12 _ rfl
  obtain ⟨x12, e12, _⟩ := int_at Tryd.underlying3 t12
  obtain ⟨_, _, t13⟩ := hp 13 _ rfl
  obtain ⟨x13, e13, _⟩ := int_at Tryd.underlying3 t13
  obtain ⟨_, _, t14⟩ := hp 14 _ rfl
  obtain ⟨x14, e14, _⟩ := int_at Tryd.underlying3 t14
  obtain ⟨_, _, t15⟩ := hp 15 _ rfl
  obtain ⟨x15, e15, _⟩ := int_at Tryd.underlying3 t15
  obtain ⟨_, _, t16⟩ := hp 16 _ rfl
  obtain ⟨x16, e16, _⟩ := int_at Tryd.underlying3 t16
  obtain ⟨_, _, t17⟩ := hp 17 _ rfl
  obtain ⟨x17, e17, _⟩ := int_at Tryd.underlying3 t17
  obtain ⟨_, _, t18⟩ := hp 18 _ rfl
  obtain ⟨x18, e18, _⟩ := int_at Tryd.underlying3 t18
  obtain ⟨_, _, t19⟩ := hp 19 _ rfl
  obtain ⟨x19, e19, _⟩ := int_at Tryd.underlying3 t19
  obtain ⟨_, _, t20⟩ := hp 20 _ rfl
  obtain ⟨p1, q1, r1, e20⟩ := sl_at Tryd.underlying38 t20
  obtain ⟨_, _, t21⟩ := hp 21 _ rfl
  obtain ⟨p2, q2, r2, e21⟩ := sl_at Tryd.underlying39 t21
  refine ⟨gn, fun i => if i = 1 then x1 else if i = 2 then x2 else if i = 3 then x3 else if i = 4 then x4 else if i = 5 then x5 else if i = 6 then x6 else if i = 7 then x7 else if i = 8 then x8 else if i = 9 then x9 else if i = 10 then x10 else if i = 11 then x11 else if i = 12 then x12 else if i = 13 then x13 else if i = 14 then x14 else if i = 15 then x15 else if i = 16 then x16 else if i = 17 then x17 else if i = 18 then x18 else if i = 19 then x19 else 0, p1, q1, r1, p2, q2, r2, ?_, ?_⟩
  · congr 1
    have hz : cs.size = 22 := hsz.trans (by kernel_rfl)
    apply Array.ext_getElem?
    intro j
    rcases Nat.lt_or_ge j 22 with hj | hj
    · rw [← Array.getElem?_toList]
      rcases (show j = 0 ∨ j = 1 ∨ j = 2 ∨ j = 3 ∨ j = 4 ∨ j = 5 ∨ j = 6 ∨ j = 7 ∨ j = 8 ∨ j = 9 ∨ j = 10 ∨ j = 11 ∨ j = 12 ∨ j = 13 ∨ j = 14 ∨ j = 15 ∨ j = 16 ∨ j = 17 ∨ j = 18 ∨ j = 19 ∨ j = 20 ∨ j = 21 by omega) with rfl | rfl | rfl | rfl | rfl | rfl | rfl | rfl | rfl | rfl | rfl | rfl | rfl | rfl | rfl | rfl | rfl | rfl | rfl | rfl | rfl | rfl
      · exact e0
      · exact e1
      · exact e2
      · exact e3
      · exact e4
      · exact e5
      · exact e6
      · exact e7
      · exact e8
      · exact e9
      · exact e10
      · exact e11
      · exact e12
      · exact e13
      · exact e14
      · exact e15
      · exact e16
      · exact e17
      · exact e18
      · exact e19
      · exact e20
      · exact e21
    · rw [Array.getElem?_eq_none (by omega), Array.getElem?_eq_none (by simpa using hj)]
  · have := bulk_agg hd (hy0.trans (by rw [hs0]))
    simpa using this
theorem open_result {r : Reach} {b0 : Nat} {v : Value} {d : DataW H} {p : List MemPlace} (hv : Value.okWide Tryd.prog w r b0 43 v) (h : DataW.Trod enc Tryd.prog w 0 spare held 43 v d p) :
    ∃ (a1 : Option Addr) (n1 c1 : Nat) (z1 : Nat → Int) (a2 : Option Addr) (n2 c2 : Nat) (z2 : Nat → Int) (a3 : Option Addr) (n3 c3 : Nat) (z3 : Nat → Int) (f : Int) (s : ByteArray), v = .agg #[.slice a1 n1 c1, .slice a2 n2 c2, .slice a3 n3 c3, .int .i64 f, .string s] ∧ NRow w a1 n1 z1 ∧ NRow w a2 n2 z2 ∧ NRow w a3 n3 z3 ∧ I64 f ∧ s.size ≤ uptoBulk d := by
  obtain ⟨cs, rfl, hsz⟩ := okWide_struct Tryd.underlying43 hv
  obtain ⟨fuel, h⟩ := h
  replace h : DataW.trod enc Tryd.prog w 0 spare held fuel _ cs.toList = some (d, p) := h
  obtain ⟨k, parts, hd, hp⟩ := open_parts Tryd.underlying43 h
  obtain ⟨_, _, t0⟩ := hp 0 _ rfl
  obtain ⟨a0, n0, c0, z0, e0, hr0⟩ := row_at Tryd.underlying29 Tryd.underlying3 (by kernel_rfl) t0
  obtain ⟨_, _, t1⟩ := hp 1 _ rfl
  obtain ⟨a1, n1, c1, z1, e1, hr1⟩ := row_at Tryd.underlying29 Tryd.underlying3 (by kernel_rfl) t1
  obtain ⟨_, _, t2⟩ := hp 2 _ rfl
  obtain ⟨a2, n2, c2, z2, e2, hr2⟩ := row_at Tryd.underlying29 Tryd.underlying3 (by kernel_rfl) t2
  obtain ⟨_, _, t3⟩ := hp 3 _ rfl
  obtain ⟨f, e3, hf⟩ := int_at Tryd.underlying3 t3
  obtain ⟨y4, hy4, t4⟩ := hp 4 _ rfl
  obtain ⟨s, e4, hs4⟩ := str_at Tryd.underlying9 t4
  refine ⟨a0, n0, c0, z0, a1, n1, c1, z1, a2, n2, c2, z2, f, s, ?_, hr0, hr1, hr2, hf, ?_⟩
  · congr 1
    have hz : cs.size = 5 := hsz.trans (by kernel_rfl)
    apply Array.ext_getElem?
    intro j
    rcases Nat.lt_or_ge j 5 with hj | hj
    · rw [← Array.getElem?_toList]
      rcases (show j = 0 ∨ j = 1 ∨ j = 2 ∨ j = 3 ∨ j = 4 by omega) with rfl | rfl | rfl | rfl | rfl
      · exact e0
      · exact e1
      · exact e2
      · exact e3
      · exact e4
    · rw [Array.getElem?_eq_none (by omega), Array.getElem?_eq_none (by simpa using hj)]
  · have := bulk_agg hd (hy4.trans (by rw [hs4]))
    simpa using this
theorem open_award {r : Reach} {b0 : Nat} {v : Value} {d : DataW H} {p : List MemPlace} (hv : Value.okWide Tryd.prog w r b0 47 v) (h : DataW.Trod enc Tryd.prog w 0 spare held 47 v d p) :
    ∃ (ac : Option Addr) (nc cc : Nat) (zc : Nat → Int) (ae : Option Addr) (ne ce : Nat) (ze : Nat → Int) (ap : Option Addr) (np cp : Nat) (zp : Nat → Int) (br dr : Int) (an : Option Addr) (nn cn : Nat) (zn : Nat → Int) (rs ro : Int), v = .agg #[.slice ac nc cc, .slice ae ne ce, .slice ap np cp, .int .i64 br, .int .i64 dr, .slice an nn cn, .int .i64 rs, .int .i64 ro] ∧ NRow w ac nc zc ∧ NRow w ae ne ze ∧ NRow w ap np zp ∧ I64 br ∧ I64 dr ∧ NRow w an nn zn ∧ I64 rs ∧ I64 ro := by
  obtain ⟨cs, rfl, hsz⟩ := okWide_struct Tryd.underlying47 hv
  obtain ⟨fuel, h⟩ := h
  replace h : DataW.trod enc Tryd.prog w 0 spare held fuel _ cs.toList = some (d, p) := h
  obtain ⟨k, parts, hd, hp⟩ := open_parts Tryd.underlying47 h
  obtain ⟨_, _, t0⟩ := hp 0 _ rfl
  obtain ⟨a0, n0, c0, z0, e0, hr0⟩ := row_at Tryd.underlying29 Tryd.underlying3 (by kernel_rfl) t0
  obtain ⟨_, _, t1⟩ := hp 1 _ rfl
  obtain ⟨a1, n1, c1, z1, e1, hr1⟩ := row_at Tryd.underlying29 Tryd.underlying3 (by kernel_rfl) t1
  obtain ⟨_, _, t2⟩ := hp 2 _ rfl
  obtain ⟨a2, n2, c2, z2, e2, hr2⟩ := row_at Tryd.underlying29 Tryd.underlying3 (by kernel_rfl) t2
  obtain ⟨_, _, t3⟩ := hp 3 _ rfl
  obtain ⟨br, e3, hbr⟩ := int_at Tryd.underlying3 t3
  obtain ⟨_, _, t4⟩ := hp 4 _ rfl
  obtain ⟨dr, e4, hdr⟩ := int_at Tryd.underlying3 t4
  obtain ⟨_, _, t5⟩ := hp 5 _ rfl
  obtain ⟨k5, parts5, hd5, hp5⟩ := open_parts Tryd.underlying45 t5
  obtain ⟨_, _, u0⟩ := hp5 0 _ rfl
  obtain ⟨an, nn, cn, zn, e5', hrn⟩ := row_at Tryd.underlying29 Tryd.underlying3 (by kernel_rfl) u0
  obtain ⟨_, _, u1⟩ := hp5 1 _ rfl
  obtain ⟨rs, e6', hrs⟩ := int_at Tryd.underlying3 u1
  obtain ⟨_, _, u2⟩ := hp5 2 _ rfl
  obtain ⟨ro, e7', hro⟩ := int_at Tryd.underlying3 u2
  have sub : ∀ {o m j : Nat} {c : Value}, ((cs.toList.drop o).take m)[j]? = some c → cs.toList[o + j]? = some c := fun {o m j c} hh => by
    rw [List.getElem?_take] at hh
    split at hh
    · rw [List.getElem?_drop] at hh; exact hh
    · cases hh
  have e5 := sub e5'
  have e6 := sub e6'
  have e7 := sub e7'
  refine ⟨a0, n0, c0, z0, a1, n1, c1, z1, a2, n2, c2, z2, br, dr, an, nn, cn, zn, rs, ro, ?_, hr0, hr1, hr2, hbr, hdr, hrn, hrs, hro⟩
  congr 1
  have hz : cs.size = 8 := hsz.trans (by kernel_rfl)
  apply Array.ext_getElem?
  intro j
  rcases Nat.lt_or_ge j 8 with hj | hj
  · rw [← Array.getElem?_toList]
    rcases (show j = 0 ∨ j = 1 ∨ j = 2 ∨ j = 3 ∨ j = 4 ∨ j = 5 ∨ j = 6 ∨ j = 7 by omega) with rfl | rfl | rfl | rfl | rfl | rfl | rfl | rfl
    · exact e0
    · exact e1
    · exact e2
    · exact e3
    · exact e4
    · exact e5
    · exact e6
    · exact e7
  · rw [Array.getElem?_eq_none (by omega), Array.getElem?_eq_none (by simpa using hj)]
end
end Go.Proofs.YtgmilhhifigkkaaDoor
