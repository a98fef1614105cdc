/- The law ReportTotals over the form's readings. -/
import Derived.Test.YtgmilhhifigkkaaDoorRpt
import Derived.Test.YtgmilhhifigkkaaDoorRpx
namespace Go.Proofs.YtgmilhhifigkkaaDoor
open Go.ChangeShapes Go.WideShapes Go.ChangeAt Go.RowKit Go.Lott
open Go.Lott.Rp
def strData {H : Type} (ls : List (List UInt8)) : DataW H := .agg (ls.map fun l => .lit (.string l))
/-- An array of texts that reads as such a table holds the table's texts. -/
theorem cells_of_strs {H : Type} {enc : TypeId × Value → H} {P : Program} {w : World} {base : Nat} {sp : Nat → Bool} {held : Bool} {fuel : Nat} {t e : TypeId} {n : Nat} {cs : List Value} {ls : List (List UInt8)} {p : List MemPlace}
    (ht : P.underlying t = some (.array n e)) (he : P.underlying e = some .string) (hce : P.cellsOf e = 1) (hct : P.cellsOf t = n)
    (h : DataW.trod enc P w base sp held fuel t cs = some (strData ls, p)) : cs = ls.map fun l => Value.string ⟨l.toArray⟩ := by
  cases fuel with
  | zero => simp [DataW.trod] at h
  | succ fuel =>
    simp only [DataW.trod, ht, hce, hct, Nat.mul_one] at h
    split at h
    · rename_i hl
      obtain ⟨xs, hm, hx⟩ := Option.map_eq_some_iff.1 h
      have hxs : xs.map (·.1) = ls.map fun l => (DataW.lit (.string l) : DataW H) := by
        have := congrArg Prod.fst hx
        simpa [strData] using this
      have hxl : xs.length = n := by simpa using Lib.mapM_length hm
      have hzl : ls.length = n := by
        have := congrArg List.length hxs
        simp at this
        omega
      apply List.ext_getElem?
      intro i
      by_cases hi : i < n
      · obtain ⟨b, hb, hf⟩ := Lib.mapM_at hm i i (by simp [hi])
        obtain ⟨s, hc, rfl, _⟩ := DataW.trod_string he hf
        have h1 : cs[i]? = some (.string s) := by
          have := congrArg (·[0]?) hc
          simpa [List.getElem?_take, List.getElem?_drop] using this
        have h2 : (xs.map (·.1))[i]? = some (DataW.lit (.string s.data.toList) : DataW H) := by simp [hb]
        rw [hxs] at h2
        simp only [List.getElem?_map, Option.map_eq_some_iff, DataW.lit.injEq, Lit.string.injEq] at h2
        obtain ⟨l, hl', he'⟩ := h2
        simp [h1, hl', he']
      · rw [List.getElem?_eq_none (by omega), List.getElem?_eq_none (by simp; omega)]
    · cases h
theorem tnType : (Tryd.prog.globals[0]?).map (·.type) = some 67 := by kernel_rfl
theorem tnData : (Rows.laid_lottery_report_totalNames : DataW Unit) = strData tnL := by kernel_rfl
theorem tns_of_head {rest : List (String × DataW Unit)} {W : World} (h : laidMet Tryd.prog (("lottery/report.totalNames", Rows.laid_lottery_report_totalNames) :: rest) W) : TNs W := by
  obtain ⟨ps, ⟨g', t', cs, fuel, p, q, hg', ht', hvar, hd, _, _⟩, _⟩ := h
  obtain rfl := Option.some.inj (gTN.symm.trans hg')
  obtain rfl := Option.some.inj (tnType.symm.trans ht')
  rw [tnData] at hd
  unfold TNs
  have e := cells_of_strs Tryd.underlying67 Tryd.underlying9 (by kernel_rfl) (by kernel_rfl) hd
  rw [hvar]
  unfold tnA
  rw [← e]
theorem tableT {W : World} (h : laidMetH Tryd.prog [("math/bits.deBruijn32tab", Rows.laid_math_bits_deBruijn32tab), ("math/bits.deBruijn64tab", Rows.laid_math_bits_deBruijn64tab), ("internal/strconv.uint64pow10", Rows.laid_internal_strconv_uint64pow10), ("lottery/report.totalNames", Rows.laid_lottery_report_totalNames)] W) : P10 W ∧ TNs W :=
  ⟨table0 h, tns_of_head (laid_tail (laid_tail (laid_tail h)))⟩
theorem flatTotals : FlatW Tryd.prog 35 17 := FlatW.ints Tryd.underlying35 (by kernel_rfl) flatI (by kernel_rfl)
theorem reportTotals_walk (z : Nat → Int) (W : World) (hz : ∀ j, j < 17 → I64 (z j)) (hp : P10 W ∧ TNs W) : Calls Tryd.prog 6 #[.agg (fv 17 z)] W (RetB (.bool true) W) := reportTotals_walki z W hz hp.1 hp.2
end Go.Proofs.YtgmilhhifigkkaaDoor
