/-
  NARROWER THAN 'FOR EVERY INPUT', by the rows' own cells (each row's printed sentence says how): ReportSettles: laid · ReportTells: laid · ReportOrders: laid · ReportTotals: laid · ReportDraws: laid · ReportLines: laid.
  DERIVED. THE GIVEN ROWS OF THIS SEAT. 6 by the template 'for every input the law returns true; each argument reads behind the call as it read before'; 0 by the template 'total and deterministic' (their statements: YtgmilhhifigkkaaDoorTotals.lean).
  GIVEN WITH THE SEED: the statements are not yours to turn. If you find one false, say at which input.
  Laid BY PROGRAM, IN A SANDBOX (cutbox-rows.mjs): the forced cells as the released guide's own fill.sh prints them over the translation c129677c57f8a391… (all of the seat's roots in one cut). By AI agents, Wed Nov 11 2026. No macro, syntax, notation, axiom, sorry.
-/
import Derived.Test.YtgmilhhifigkkaaDoorChecked
import GoSem.Claim
import GoSem.ClaimJoined
import GoSem.ClaimMapViews
import Derived.JoinedTies
import Derived.KernelRfl
namespace Go.Proofs.YtgmilhhifigkkaaDoor
/- THE CELL 'sum', in the pinned program and in every row, IS THE sha256 OF THE DUMP (.gsa) THAT YtgmilhhifigkkaaDoorProg.lean LOADS. Nothing in Lean hashes anything: it is a label: what it is worth is what the hold of that sum in a sandbox is worth. -/
noncomputable def Tryd.pinned : Pinned := { name := "ytgmilhhifigkkaadoor", sum := "c129677c57f8a391f47202da0d3ed6740e8ced0454e381434350a18efea205d7", checked := Tryd.checked }
namespace Rows
def none {H : Type} : Left H := { results := [], args := [] }

/- WHAT THE LISTED PACKAGE-LEVEL VARIABLES READ AS WHEN THE CALL BEGINS. Each datum BY PROGRAM (the guide's laid-datum.mjs) off the statement by which the dump's own 'gosem.cut.vars' lays the variable. In a bare row this is a premise. The card (YtgmilhhifigkkaaDoorCards.lean) ties it to the program's text. -/
def laid_math_bits_deBruijn32tab {H : Type} : DataW H := .agg [.lit (.int .u8 0), .lit (.int .u8 1), .lit (.int .u8 28), .lit (.int .u8 2), .lit (.int .u8 29), .lit (.int .u8 14), .lit (.int .u8 24), .lit (.int .u8 3), .lit (.int .u8 30), .lit (.int .u8 22), .lit (.int .u8 20), .lit (.int .u8 15), .lit (.int .u8 25), .lit (.int .u8 17), .lit (.int .u8 4), .lit (.int .u8 8), .lit (.int .u8 31), .lit (.int .u8 27), .lit (.int .u8 13), .lit (.int .u8 23), .lit (.int .u8 21), .lit (.int .u8 19), .lit (.int .u8 16), .lit (.int .u8 7), .lit (.int .u8 26), .lit (.int .u8 12), .lit (.int .u8 18), .lit (.int .u8 6), .lit (.int .u8 11), .lit (.int .u8 5), .lit (.int .u8 10), .lit (.int .u8 9)]
def laid_math_bits_deBruijn64tab {H : Type} : DataW H := .agg [.lit (.int .u8 0), .lit (.int .u8 1), .lit (.int .u8 56), .lit (.int .u8 2), .lit (.int .u8 57), .lit (.int .u8 49), .lit (.int .u8 28), .lit (.int .u8 3), .lit (.int .u8 61), .lit (.int .u8 58), .lit (.int .u8 42), .lit (.int .u8 50), .lit (.int .u8 38), .lit (.int .u8 29), .lit (.int .u8 17), .lit (.int .u8 4), .lit (.int .u8 62), .lit (.int .u8 47), .lit (.int .u8 59), .lit (.int .u8 36), .lit (.int .u8 45), .lit (.int .u8 43), .lit (.int .u8 51), .lit (.int .u8 22), .lit (.int .u8 53), .lit (.int .u8 39), .lit (.int .u8 33), .lit (.int .u8 30), .lit (.int .u8 24), .lit (.int .u8 18), .lit (.int .u8 12), .lit (.int .u8 5), .lit (.int .u8 63), .lit (.int .u8 55), .lit (.int .u8 48), .lit (.int .u8 27), .lit (.int .u8 60), .lit (.int .u8 41), .lit (.int .u8 37), .lit (.int .u8 16), .lit (.int .u8 46), .lit (.int .u8 35), .lit (.int .u8 44), .lit (.int .u8 21), .lit (.int .u8 52), .lit (.int .u8 32), .lit (.int .u8 23), .lit (.int .u8 11), .lit (.int .u8 54), .lit (.int .u8 26), .lit (.int .u8 40), .lit (.int .u8 15), .lit (.int .u8 34), .lit (.int .u8 20), .lit (.int .u8 31), .lit (.int .u8 10), .lit (.int .u8 25), .lit (.int .u8 14), .lit (.int .u8 19), .lit (.int .u8 9), .lit (.int .u8 13), .lit (.int .u8 8), .lit (.int .u8 7), .lit (.int .u8 6)]
def laid_internal_strconv_uint64pow10 {H : Type} : DataW H := .agg [.lit (.int .u64 1), .lit (.int .u64 10), .lit (.int .u64 100), .lit (.int .u64 1000), .lit (.int .u64 10000), .lit (.int .u64 100000), .lit (.int .u64 1000000), .lit (.int .u64 10000000), .lit (.int .u64 100000000), .lit (.int .u64 1000000000), .lit (.int .u64 10000000000), .lit (.int .u64 100000000000), .lit (.int .u64 1000000000000), .lit (.int .u64 10000000000000), .lit (.int .u64 100000000000000), .lit (.int .u64 1000000000000000), .lit (.int .u64 10000000000000000), .lit (.int .u64 100000000000000000), .lit (.int .u64 1000000000000000000), .lit (.int .u64 10000000000000000000)]
def laid_lottery_report_totalNames {H : Type} : DataW H := .agg [.lit (.string [115, 97, 108, 101, 115]), .lit (.string [99, 97, 110, 99, 101, 108, 115]), .lit (.string [97, 100, 100, 111, 110, 115]), .lit (.string [105, 110, 115, 116, 97, 110, 116, 115]), .lit (.string [114, 101, 116, 117, 114, 110, 115]), .lit (.string [102, 117, 110, 100, 115]), .lit (.string [114, 101, 115, 101, 114, 118, 101]), .lit (.string [112, 114, 105, 122, 101, 115]), .lit (.string [99, 97, 114, 114, 105, 101, 100]), .lit (.string [98, 114, 101, 97, 107, 97, 103, 101]), .lit (.string [99, 108, 97, 105, 109, 101, 100]), .lit (.string [101, 120, 112, 105, 114, 101, 100]), .lit (.string [116, 97, 120]), .lit (.string [111, 102, 102, 115, 101, 116]), .lit (.string [110, 101, 116]), .lit (.string [99, 111, 109, 109, 105, 115, 115, 105, 111, 110]), .lit (.string [100, 117, 101])]

/-- 'lotterylaw56.ReportSettles': WHATEVER THE INPUT: true; the input reads as it did. -/
def reportSettlesSpec : ChangeSpec := { name := "reportSettles", fn := fun _ => fun
  | [d1, d2] => { results := [.lit (.bool true)], args := [d1, d2] }
  | _ => none }
def reportSettlesRow : OpenClaim := { program := "ytgmilhhifigkkaadoor", sum := "c129677c57f8a391f47202da0d3ed6740e8ced0454e381434350a18efea205d7", func := "lottery/lotterylaw56.ReportSettles", spec := "reportSettles", inPlace := ["internal/abi.NoEscape"], named := ["internal/strconv.uint64pow10", "math/bits.deBruijn32tab", "math/bits.deBruijn64tab"], apart := false, laid := [("math/bits.deBruijn32tab", laid_math_bits_deBruijn32tab), ("math/bits.deBruijn64tab", laid_math_bits_deBruijn64tab), ("internal/strconv.uint64pow10", laid_internal_strconv_uint64pow10)] }
def ReportSettlesSaid : Prop := reportSettlesRow.holds Tryd.pinned (OpenSpec.ofChange reportSettlesSpec)

/-- ITS FALSE NEIGHBOUR: 'it returns false'. Refute it at one input. -/
def reportSettlesWrong : ChangeSpec := { name := "reportSettles", fn := fun _ => fun
  | [d1, d2] => { results := [.lit (.bool false)], args := [d1, d2] }
  | _ => none }
def ReportSettlesWrongFalsely : Prop := reportSettlesRow.holds Tryd.pinned (OpenSpec.ofChange reportSettlesWrong)

/-- 'lotterylaw56.ReportTells': WHATEVER THE INPUT: true; the input reads as it did. -/
def reportTellsSpec : ChangeSpec := { name := "reportTells", fn := fun _ => fun
  | [d1, d2, d3, d4] => { results := [.lit (.bool true)], args := [d1, d2, d3, d4] }
  | _ => none }
def reportTellsRow : OpenClaim := { program := "ytgmilhhifigkkaadoor", sum := "c129677c57f8a391f47202da0d3ed6740e8ced0454e381434350a18efea205d7", func := "lottery/lotterylaw56.ReportTells", spec := "reportTells", inPlace := ["internal/abi.NoEscape"], named := ["internal/strconv.uint64pow10", "math/bits.deBruijn32tab", "math/bits.deBruijn64tab"], apart := false, laid := [("math/bits.deBruijn32tab", laid_math_bits_deBruijn32tab), ("math/bits.deBruijn64tab", laid_math_bits_deBruijn64tab), ("internal/strconv.uint64pow10", laid_internal_strconv_uint64pow10)] }
def ReportTellsSaid : Prop := reportTellsRow.holds Tryd.pinned (OpenSpec.ofChange reportTellsSpec)

/-- ITS FALSE NEIGHBOUR: 'it returns false'. Refute it at one input. -/
def reportTellsWrong : ChangeSpec := { name := "reportTells", fn := fun _ => fun
  | [d1, d2, d3, d4] => { results := [.lit (.bool false)], args := [d1, d2, d3, d4] }
  | _ => none }
def ReportTellsWrongFalsely : Prop := reportTellsRow.holds Tryd.pinned (OpenSpec.ofChange reportTellsWrong)

/-- 'lotterylaw56.ReportOrders': WHATEVER THE INPUT: true; the input reads as it did. -/
def reportOrdersSpec : ChangeSpec := { name := "reportOrders", fn := fun _ => fun
  | [d1, d2] => { results := [.lit (.bool true)], args := [d1, d2] }
  | _ => none }
def reportOrdersRow : OpenClaim := { program := "ytgmilhhifigkkaadoor", sum := "c129677c57f8a391f47202da0d3ed6740e8ced0454e381434350a18efea205d7", func := "lottery/lotterylaw56.ReportOrders", spec := "reportOrders", inPlace := ["internal/abi.NoEscape"], named := ["internal/strconv.uint64pow10", "math/bits.deBruijn32tab", "math/bits.deBruijn64tab"], apart := false, laid := [("math/bits.deBruijn32tab", laid_math_bits_deBruijn32tab), ("math/bits.deBruijn64tab", laid_math_bits_deBruijn64tab), ("internal/strconv.uint64pow10", laid_internal_strconv_uint64pow10)] }
def ReportOrdersSaid : Prop := reportOrdersRow.holds Tryd.pinned (OpenSpec.ofChange reportOrdersSpec)

/-- ITS FALSE NEIGHBOUR: 'it returns false'. Refute it at one input. -/
def reportOrdersWrong : ChangeSpec := { name := "reportOrders", fn := fun _ => fun
  | [d1, d2] => { results := [.lit (.bool false)], args := [d1, d2] }
  | _ => none }
def ReportOrdersWrongFalsely : Prop := reportOrdersRow.holds Tryd.pinned (OpenSpec.ofChange reportOrdersWrong)

/-- 'lotterylaw56.ReportTotals': WHATEVER THE INPUT: true; the input reads as it did. -/
def reportTotalsSpec : ChangeSpec := { name := "reportTotals", fn := fun _ => fun
  | [d] => { results := [.lit (.bool true)], args := [d] }
  | _ => none }
def reportTotalsRow : OpenClaim := { program := "ytgmilhhifigkkaadoor", sum := "c129677c57f8a391f47202da0d3ed6740e8ced0454e381434350a18efea205d7", func := "lottery/lotterylaw56.ReportTotals", spec := "reportTotals", inPlace := ["internal/abi.NoEscape"], named := ["lottery/report.totalNames", "internal/strconv.uint64pow10", "math/bits.deBruijn32tab", "math/bits.deBruijn64tab"], apart := false, laid := [("math/bits.deBruijn32tab", laid_math_bits_deBruijn32tab), ("math/bits.deBruijn64tab", laid_math_bits_deBruijn64tab), ("internal/strconv.uint64pow10", laid_internal_strconv_uint64pow10), ("lottery/report.totalNames", laid_lottery_report_totalNames)] }
def ReportTotalsSaid : Prop := reportTotalsRow.holds Tryd.pinned (OpenSpec.ofChange reportTotalsSpec)

/-- ITS FALSE NEIGHBOUR: 'it returns false'. Refute it at one input. -/
def reportTotalsWrong : ChangeSpec := { name := "reportTotals", fn := fun _ => fun
  | [d] => { results := [.lit (.bool false)], args := [d] }
  | _ => none }
def ReportTotalsWrongFalsely : Prop := reportTotalsRow.holds Tryd.pinned (OpenSpec.ofChange reportTotalsWrong)

/-- 'lotterylaw56.ReportDraws': WHATEVER THE INPUT: true; the input reads as it did. -/
def reportDrawsSpec : ChangeSpec := { name := "reportDraws", fn := fun _ => fun
  | [d1, d2, d3, d4] => { results := [.lit (.bool true)], args := [d1, d2, d3, d4] }
  | _ => none }
def reportDrawsRow : OpenClaim := { program := "ytgmilhhifigkkaadoor", sum := "c129677c57f8a391f47202da0d3ed6740e8ced0454e381434350a18efea205d7", func := "lottery/lotterylaw56.ReportDraws", spec := "reportDraws", inPlace := ["internal/abi.NoEscape"], unfollowed := true, recurses := true, named := ["internal/strconv.uint64pow10", "math/bits.deBruijn32tab", "math/bits.deBruijn64tab"], apart := false, laid := [("math/bits.deBruijn32tab", laid_math_bits_deBruijn32tab), ("math/bits.deBruijn64tab", laid_math_bits_deBruijn64tab), ("internal/strconv.uint64pow10", laid_internal_strconv_uint64pow10)] }
def ReportDrawsSaid : Prop := reportDrawsRow.holds Tryd.pinned (OpenSpec.ofChange reportDrawsSpec)

/-- ITS FALSE NEIGHBOUR: 'it returns false'. Refute it at one input. -/
def reportDrawsWrong : ChangeSpec := { name := "reportDraws", fn := fun _ => fun
  | [d1, d2, d3, d4] => { results := [.lit (.bool false)], args := [d1, d2, d3, d4] }
  | _ => none }
def ReportDrawsWrongFalsely : Prop := reportDrawsRow.holds Tryd.pinned (OpenSpec.ofChange reportDrawsWrong)

/-- 'lotterylaw56.ReportLines': WHATEVER THE INPUT: true; the input reads as it did. -/
def reportLinesSpec : ChangeSpec := { name := "reportLines", fn := fun _ => fun
  | [d1, d2, d3, d4] => { results := [.lit (.bool true)], args := [d1, d2, d3, d4] }
  | _ => none }
def reportLinesRow : OpenClaim := { program := "ytgmilhhifigkkaadoor", sum := "c129677c57f8a391f47202da0d3ed6740e8ced0454e381434350a18efea205d7", func := "lottery/lotterylaw56.ReportLines", spec := "reportLines", inPlace := ["internal/abi.NoEscape"], unfollowed := true, recurses := true, named := ["internal/strconv.uint64pow10", "math/bits.deBruijn32tab", "math/bits.deBruijn64tab"], apart := false, laid := [("math/bits.deBruijn32tab", laid_math_bits_deBruijn32tab), ("math/bits.deBruijn64tab", laid_math_bits_deBruijn64tab), ("internal/strconv.uint64pow10", laid_internal_strconv_uint64pow10)] }
def ReportLinesSaid : Prop := reportLinesRow.holds Tryd.pinned (OpenSpec.ofChange reportLinesSpec)

/-- ITS FALSE NEIGHBOUR: 'it returns false'. Refute it at one input. -/
def reportLinesWrong : ChangeSpec := { name := "reportLines", fn := fun _ => fun
  | [d1, d2, d3, d4] => { results := [.lit (.bool false)], args := [d1, d2, d3, d4] }
  | _ => none }
def ReportLinesWrongFalsely : Prop := reportLinesRow.holds Tryd.pinned (OpenSpec.ofChange reportLinesWrong)

/- THE SECOND FORM. 'bulk': how many values and letters a reading holds, each counted each time it is reached (what is shared counts as often as it is met; a slice's spare places count too). A statement '..UptoSaid' is the law's where the arguments, and the package variables that the reading takes, are together of bulk at most 1048576: NARROWER than '..Said'. Prove '..Said' where nothing that the law and all that it calls make is longer than what came in: it says more and counts as full. Else prove '..UptoSaid'. A law counts once. -/
mutual
def uptoBulk {H : Type} : DataW H → Nat
  | .lit (.string bytes) => bytes.length + 1
  | .lit _ => 1
  | .nil => 1
  | .ptr d => uptoBulk d + 1
  | .slice elems spare => uptoBulkAll elems + uptoBulkAll spare + 1
  | .agg parts => uptoBulkAll parts + 1
  | .iface _ d => uptoBulk d + 1
  | .map entries => uptoBulkEntries entries + 1
  | .held _ => 1
def uptoBulkAll {H : Type} : List (DataW H) → Nat
  | [] => 0
  | d :: r => uptoBulk d + uptoBulkAll r
def uptoBulkEntries {H : Type} : List (Lit × DataW H) → Nat
  | [] => 0
  | x :: r => uptoBulkEntry x + uptoBulkEntries r
def uptoBulkEntry {H : Type} : Lit × DataW H → Nat
  | (.string bytes, d) => bytes.length + uptoBulk d + 1
  | (_, d) => uptoBulk d + 1
 end
def uptoSmall : (H : Type) → List (DataW H) → Bool := fun _ ds => decide (uptoBulkAll ds ≤ 1048576)
def OpenSpec.upto (s : _root_.Go.ChangeSpec) : _root_.Go.OpenSpec := { _root_.Go.OpenSpec.ofChange s with cond := some uptoSmall }

/-- 'lotterylaw56.ReportSettles', WHERE WHAT IT READS IS OF BULK AT MOST 1048576: true; the input reads as it did. -/
def reportSettlesUptoRow : OpenClaim := { program := "ytgmilhhifigkkaadoor", sum := "c129677c57f8a391f47202da0d3ed6740e8ced0454e381434350a18efea205d7", func := "lottery/lotterylaw56.ReportSettles", spec := "reportSettles", inPlace := ["internal/abi.NoEscape"], named := ["internal/strconv.uint64pow10", "math/bits.deBruijn32tab", "math/bits.deBruijn64tab"], apart := false, laid := [("math/bits.deBruijn32tab", laid_math_bits_deBruijn32tab), ("math/bits.deBruijn64tab", laid_math_bits_deBruijn64tab), ("internal/strconv.uint64pow10", laid_internal_strconv_uint64pow10)], narrowed := true }
def ReportSettlesUptoSaid : Prop := reportSettlesUptoRow.holds Tryd.pinned (OpenSpec.upto reportSettlesSpec)

/-- 'lotterylaw56.ReportTells', WHERE WHAT IT READS IS OF BULK AT MOST 1048576: true; the input reads as it did. -/
def reportTellsUptoRow : OpenClaim := { program := "ytgmilhhifigkkaadoor", sum := "c129677c57f8a391f47202da0d3ed6740e8ced0454e381434350a18efea205d7", func := "lottery/lotterylaw56.ReportTells", spec := "reportTells", inPlace := ["internal/abi.NoEscape"], named := ["internal/strconv.uint64pow10", "math/bits.deBruijn32tab", "math/bits.deBruijn64tab"], apart := false, laid := [("math/bits.deBruijn32tab", laid_math_bits_deBruijn32tab), ("math/bits.deBruijn64tab", laid_math_bits_deBruijn64tab), ("internal/strconv.uint64pow10", laid_internal_strconv_uint64pow10)], narrowed := true }
def ReportTellsUptoSaid : Prop := reportTellsUptoRow.holds Tryd.pinned (OpenSpec.upto reportTellsSpec)

/-- 'lotterylaw56.ReportOrders', WHERE WHAT IT READS IS OF BULK AT MOST 1048576: true; the input reads as it did. -/
def reportOrdersUptoRow : OpenClaim := { program := "ytgmilhhifigkkaadoor", sum := "c129677c57f8a391f47202da0d3ed6740e8ced0454e381434350a18efea205d7", func := "lottery/lotterylaw56.ReportOrders", spec := "reportOrders", inPlace := ["internal/abi.NoEscape"], named := ["internal/strconv.uint64pow10", "math/bits.deBruijn32tab", "math/bits.deBruijn64tab"], apart := false, laid := [("math/bits.deBruijn32tab", laid_math_bits_deBruijn32tab), ("math/bits.deBruijn64tab", laid_math_bits_deBruijn64tab), ("internal/strconv.uint64pow10", laid_internal_strconv_uint64pow10)], narrowed := true }
def ReportOrdersUptoSaid : Prop := reportOrdersUptoRow.holds Tryd.pinned (OpenSpec.upto reportOrdersSpec)

/-- 'lotterylaw56.ReportTotals', WHERE WHAT IT READS IS OF BULK AT MOST 1048576: true; the input reads as it did. -/
def reportTotalsUptoRow : OpenClaim := { program := "ytgmilhhifigkkaadoor", sum := "c129677c57f8a391f47202da0d3ed6740e8ced0454e381434350a18efea205d7", func := "lottery/lotterylaw56.ReportTotals", spec := "reportTotals", inPlace := ["internal/abi.NoEscape"], named := ["lottery/report.totalNames", "internal/strconv.uint64pow10", "math/bits.deBruijn32tab", "math/bits.deBruijn64tab"], apart := false, laid := [("math/bits.deBruijn32tab", laid_math_bits_deBruijn32tab), ("math/bits.deBruijn64tab", laid_math_bits_deBruijn64tab), ("internal/strconv.uint64pow10", laid_internal_strconv_uint64pow10), ("lottery/report.totalNames", laid_lottery_report_totalNames)], narrowed := true }
def ReportTotalsUptoSaid : Prop := reportTotalsUptoRow.holds Tryd.pinned (OpenSpec.upto reportTotalsSpec)

/-- 'lotterylaw56.ReportDraws', WHERE WHAT IT READS IS OF BULK AT MOST 1048576: true; the input reads as it did. -/
def reportDrawsUptoRow : OpenClaim := { program := "ytgmilhhifigkkaadoor", sum := "c129677c57f8a391f47202da0d3ed6740e8ced0454e381434350a18efea205d7", func := "lottery/lotterylaw56.ReportDraws", spec := "reportDraws", inPlace := ["internal/abi.NoEscape"], unfollowed := true, recurses := true, named := ["internal/strconv.uint64pow10", "math/bits.deBruijn32tab", "math/bits.deBruijn64tab"], apart := false, laid := [("math/bits.deBruijn32tab", laid_math_bits_deBruijn32tab), ("math/bits.deBruijn64tab", laid_math_bits_deBruijn64tab), ("internal/strconv.uint64pow10", laid_internal_strconv_uint64pow10)], narrowed := true }
def ReportDrawsUptoSaid : Prop := reportDrawsUptoRow.holds Tryd.pinned (OpenSpec.upto reportDrawsSpec)

/-- 'lotterylaw56.ReportLines', WHERE WHAT IT READS IS OF BULK AT MOST 1048576: true; the input reads as it did. -/
def reportLinesUptoRow : OpenClaim := { program := "ytgmilhhifigkkaadoor", sum := "c129677c57f8a391f47202da0d3ed6740e8ced0454e381434350a18efea205d7", func := "lottery/lotterylaw56.ReportLines", spec := "reportLines", inPlace := ["internal/abi.NoEscape"], unfollowed := true, recurses := true, named := ["internal/strconv.uint64pow10", "math/bits.deBruijn32tab", "math/bits.deBruijn64tab"], apart := false, laid := [("math/bits.deBruijn32tab", laid_math_bits_deBruijn32tab), ("math/bits.deBruijn64tab", laid_math_bits_deBruijn64tab), ("internal/strconv.uint64pow10", laid_internal_strconv_uint64pow10)], narrowed := true }
def ReportLinesUptoSaid : Prop := reportLinesUptoRow.holds Tryd.pinned (OpenSpec.upto reportLinesSpec)

end Rows
end Go.Proofs.YtgmilhhifigkkaaDoor
