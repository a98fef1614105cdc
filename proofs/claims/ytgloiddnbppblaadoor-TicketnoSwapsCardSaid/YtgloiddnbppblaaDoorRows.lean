/-
  NARROWER THAN 'FOR EVERY INPUT', by the rows' own cells (each row's printed sentence says how): TicketnoMakes: laid · TicketnoDiffers: laid · NumAdds: laid · NumInverts: laid · NumMulDivs: laid · NumDivides: laid · NumPowers: laid · NumPowersGrow: laid · NumGCDs: laid · NumParses: laid · NumFormats: laid · TicketnoInverts: laid · TicketnoParses: laid · TicketnoDetects: laid · TicketnoSwaps: laid.
  DERIVED. THE GIVEN ROWS OF THIS SEAT. 15 by the template 'for every input the law returns true; each argument reads behind the call as it read before'; 0 by the template 'total and deterministic' (their statements: YtgloiddnbppblaaDoorTotals.lean).
  GIVEN WITH THE SEED: the statements are not yours to turn. If you find one false, say at which input.
  Laid BY PROGRAM, IN A SANDBOX (cutbox-rows.mjs): the forced cells as the released guide's own fill.sh prints them over the translation a3c33df0350cf510… (all of the seat's roots in one cut). By AI agents, Wed Nov 11 2026. No macro, syntax, notation, axiom, sorry.
-/
import Derived.Test.YtgloiddnbppblaaDoorChecked
import GoSem.Claim
import GoSem.ClaimJoined
import GoSem.ClaimMapViews
import Derived.JoinedTies
import Derived.KernelRfl
namespace Go.Proofs.YtgloiddnbppblaaDoor
/- THE CELL 'sum', in the pinned program and in every row, IS THE sha256 OF THE DUMP (.gsa) THAT YtgloiddnbppblaaDoorProg.lean LOADS. Nothing in Lean hashes anything: it is a label: what it is worth is what the hold of that sum in a sandbox is worth. -/
noncomputable def Tryd.pinned : Pinned := { name := "ytgloiddnbppblaadoor", sum := "a3c33df0350cf510922eb158c6df6dfc187b43c6f75dcd511a09b13bc2e73769", checked := Tryd.checked }
namespace Rows
def none {H : Type} : Left H := { results := [], args := [] }

/- WHAT THE LISTED PACKAGE-LEVEL VARIABLES READ AS WHEN THE CALL BEGINS. Each datum BY PROGRAM (the guide's laid-datum.mjs) off the statement by which the dump's own 'gosem.cut.vars' lays the variable. In a bare row this is a premise. The card (YtgloiddnbppblaaDoorCards.lean) ties it to the program's text. -/
def laid_math_bits_deBruijn32tab {H : Type} : DataW H := .agg [.lit (.int .u8 0), .lit (.int .u8 1), .lit (.int .u8 28), .lit (.int .u8 2), .lit (.int .u8 29), .lit (.int .u8 14), .lit (.int .u8 24), .lit (.int .u8 3), .lit (.int .u8 30), .lit (.int .u8 22), .lit (.int .u8 20), .lit (.int .u8 15), .lit (.int .u8 25), .lit (.int .u8 17), .lit (.int .u8 4), .lit (.int .u8 8), .lit (.int .u8 31), .lit (.int .u8 27), .lit (.int .u8 13), .lit (.int .u8 23), .lit (.int .u8 21), .lit (.int .u8 19), .lit (.int .u8 16), .lit (.int .u8 7), .lit (.int .u8 26), .lit (.int .u8 12), .lit (.int .u8 18), .lit (.int .u8 6), .lit (.int .u8 11), .lit (.int .u8 5), .lit (.int .u8 10), .lit (.int .u8 9)]
def laid_math_bits_deBruijn64tab {H : Type} : DataW H := .agg [.lit (.int .u8 0), .lit (.int .u8 1), .lit (.int .u8 56), .lit (.int .u8 2), .lit (.int .u8 57), .lit (.int .u8 49), .lit (.int .u8 28), .lit (.int .u8 3), .lit (.int .u8 61), .lit (.int .u8 58), .lit (.int .u8 42), .lit (.int .u8 50), .lit (.int .u8 38), .lit (.int .u8 29), .lit (.int .u8 17), .lit (.int .u8 4), .lit (.int .u8 62), .lit (.int .u8 47), .lit (.int .u8 59), .lit (.int .u8 36), .lit (.int .u8 45), .lit (.int .u8 43), .lit (.int .u8 51), .lit (.int .u8 22), .lit (.int .u8 53), .lit (.int .u8 39), .lit (.int .u8 33), .lit (.int .u8 30), .lit (.int .u8 24), .lit (.int .u8 18), .lit (.int .u8 12), .lit (.int .u8 5), .lit (.int .u8 63), .lit (.int .u8 55), .lit (.int .u8 48), .lit (.int .u8 27), .lit (.int .u8 60), .lit (.int .u8 41), .lit (.int .u8 37), .lit (.int .u8 16), .lit (.int .u8 46), .lit (.int .u8 35), .lit (.int .u8 44), .lit (.int .u8 21), .lit (.int .u8 52), .lit (.int .u8 32), .lit (.int .u8 23), .lit (.int .u8 11), .lit (.int .u8 54), .lit (.int .u8 26), .lit (.int .u8 40), .lit (.int .u8 15), .lit (.int .u8 34), .lit (.int .u8 20), .lit (.int .u8 31), .lit (.int .u8 10), .lit (.int .u8 25), .lit (.int .u8 14), .lit (.int .u8 19), .lit (.int .u8 9), .lit (.int .u8 13), .lit (.int .u8 8), .lit (.int .u8 7), .lit (.int .u8 6)]
def laid_internal_strconv_uint64pow10 {H : Type} : DataW H := .agg [.lit (.int .u64 1), .lit (.int .u64 10), .lit (.int .u64 100), .lit (.int .u64 1000), .lit (.int .u64 10000), .lit (.int .u64 100000), .lit (.int .u64 1000000), .lit (.int .u64 10000000), .lit (.int .u64 100000000), .lit (.int .u64 1000000000), .lit (.int .u64 10000000000), .lit (.int .u64 100000000000), .lit (.int .u64 1000000000000), .lit (.int .u64 10000000000000), .lit (.int .u64 100000000000000), .lit (.int .u64 1000000000000000), .lit (.int .u64 10000000000000000), .lit (.int .u64 100000000000000000), .lit (.int .u64 1000000000000000000), .lit (.int .u64 10000000000000000000)]
def laid_lottery_ticketno_weights {H : Type} : DataW H := .agg [.lit (.int .i64 15), .lit (.int .i64 50), .lit (.int .i64 5), .lit (.int .i64 49), .lit (.int .i64 34), .lit (.int .i64 81), .lit (.int .i64 76), .lit (.int .i64 27), .lit (.int .i64 90), .lit (.int .i64 9), .lit (.int .i64 30), .lit (.int .i64 3)]

/-- 'lotterylaw18.TicketnoMakes': WHATEVER THE INPUT: true; the input reads as it did. -/
def ticketnoMakesSpec : ChangeSpec := { name := "ticketnoMakes", fn := fun _ => fun
  | [d1, d2] => { results := [.lit (.bool true)], args := [d1, d2] }
  | _ => none }
def ticketnoMakesRow : OpenClaim := { program := "ytgloiddnbppblaadoor", sum := "a3c33df0350cf510922eb158c6df6dfc187b43c6f75dcd511a09b13bc2e73769", func := "lottery/lotterylaw18.TicketnoMakes", spec := "ticketnoMakes", inPlace := ["internal/abi.NoEscape", "internal/bytealg.MakeNoZero"], named := ["internal/strconv.uint64pow10", "math/bits.deBruijn32tab", "math/bits.deBruijn64tab", "lottery/ticketno.weights"], apart := false, laid := [("math/bits.deBruijn32tab", laid_math_bits_deBruijn32tab), ("math/bits.deBruijn64tab", laid_math_bits_deBruijn64tab), ("internal/strconv.uint64pow10", laid_internal_strconv_uint64pow10), ("lottery/ticketno.weights", laid_lottery_ticketno_weights)] }
def TicketnoMakesSaid : Prop := ticketnoMakesRow.holds Tryd.pinned (OpenSpec.ofChange ticketnoMakesSpec)

/-- ITS FALSE NEIGHBOUR: 'it returns false'. Refute it at one input. -/
def ticketnoMakesWrong : ChangeSpec := { name := "ticketnoMakes", fn := fun _ => fun
  | [d1, d2] => { results := [.lit (.bool false)], args := [d1, d2] }
  | _ => none }
def TicketnoMakesWrongFalsely : Prop := ticketnoMakesRow.holds Tryd.pinned (OpenSpec.ofChange ticketnoMakesWrong)

/-- 'lotterylaw18.TicketnoDiffers': WHATEVER THE INPUT: true; the input reads as it did. -/
def ticketnoDiffersSpec : ChangeSpec := { name := "ticketnoDiffers", fn := fun _ => fun
  | [d1, d2, d3, d4] => { results := [.lit (.bool true)], args := [d1, d2, d3, d4] }
  | _ => none }
def ticketnoDiffersRow : OpenClaim := { program := "ytgloiddnbppblaadoor", sum := "a3c33df0350cf510922eb158c6df6dfc187b43c6f75dcd511a09b13bc2e73769", func := "lottery/lotterylaw18.TicketnoDiffers", spec := "ticketnoDiffers", inPlace := ["internal/abi.NoEscape", "internal/bytealg.MakeNoZero"], named := ["internal/strconv.uint64pow10", "math/bits.deBruijn32tab", "math/bits.deBruijn64tab", "lottery/ticketno.weights"], apart := false, laid := [("math/bits.deBruijn32tab", laid_math_bits_deBruijn32tab), ("math/bits.deBruijn64tab", laid_math_bits_deBruijn64tab), ("internal/strconv.uint64pow10", laid_internal_strconv_uint64pow10), ("lottery/ticketno.weights", laid_lottery_ticketno_weights)] }
def TicketnoDiffersSaid : Prop := ticketnoDiffersRow.holds Tryd.pinned (OpenSpec.ofChange ticketnoDiffersSpec)

/-- ITS FALSE NEIGHBOUR: 'it returns false'. Refute it at one input. -/
def ticketnoDiffersWrong : ChangeSpec := { name := "ticketnoDiffers", fn := fun _ => fun
  | [d1, d2, d3, d4] => { results := [.lit (.bool false)], args := [d1, d2, d3, d4] }
  | _ => none }
def TicketnoDiffersWrongFalsely : Prop := ticketnoDiffersRow.holds Tryd.pinned (OpenSpec.ofChange ticketnoDiffersWrong)

/-- 'lotterylaw01.NumAdds': WHATEVER THE INPUT: true; the input reads as it did. -/
def numAddsSpec : ChangeSpec := { name := "numAdds", fn := fun _ => fun
  | [d1, d2] => { results := [.lit (.bool true)], args := [d1, d2] }
  | _ => none }
def numAddsRow : OpenClaim := { program := "ytgloiddnbppblaadoor", sum := "a3c33df0350cf510922eb158c6df6dfc187b43c6f75dcd511a09b13bc2e73769", func := "lottery/lotterylaw01.NumAdds", spec := "numAdds", named := ["math/bits.divideError", "math/bits.overflowError", "internal/strconv.uint64pow10", "math/bits.deBruijn32tab", "math/bits.deBruijn64tab"], apart := false, laid := [("math/bits.deBruijn32tab", laid_math_bits_deBruijn32tab), ("math/bits.deBruijn64tab", laid_math_bits_deBruijn64tab), ("internal/strconv.uint64pow10", laid_internal_strconv_uint64pow10)] }
def NumAddsSaid : Prop := numAddsRow.holds Tryd.pinned (OpenSpec.ofChange numAddsSpec)

/-- ITS FALSE NEIGHBOUR: 'it returns false'. Refute it at one input. -/
def numAddsWrong : ChangeSpec := { name := "numAdds", fn := fun _ => fun
  | [d1, d2] => { results := [.lit (.bool false)], args := [d1, d2] }
  | _ => none }
def NumAddsWrongFalsely : Prop := numAddsRow.holds Tryd.pinned (OpenSpec.ofChange numAddsWrong)

/-- 'lotterylaw01.NumInverts': WHATEVER THE INPUT: true; the input reads as it did. -/
def numInvertsSpec : ChangeSpec := { name := "numInverts", fn := fun _ => fun
  | [d1, d2] => { results := [.lit (.bool true)], args := [d1, d2] }
  | _ => none }
def numInvertsRow : OpenClaim := { program := "ytgloiddnbppblaadoor", sum := "a3c33df0350cf510922eb158c6df6dfc187b43c6f75dcd511a09b13bc2e73769", func := "lottery/lotterylaw01.NumInverts", spec := "numInverts", named := ["math/bits.divideError", "math/bits.overflowError", "internal/strconv.uint64pow10", "math/bits.deBruijn32tab", "math/bits.deBruijn64tab"], apart := false, laid := [("math/bits.deBruijn32tab", laid_math_bits_deBruijn32tab), ("math/bits.deBruijn64tab", laid_math_bits_deBruijn64tab), ("internal/strconv.uint64pow10", laid_internal_strconv_uint64pow10)] }
def NumInvertsSaid : Prop := numInvertsRow.holds Tryd.pinned (OpenSpec.ofChange numInvertsSpec)

/-- ITS FALSE NEIGHBOUR: 'it returns false'. Refute it at one input. -/
def numInvertsWrong : ChangeSpec := { name := "numInverts", fn := fun _ => fun
  | [d1, d2] => { results := [.lit (.bool false)], args := [d1, d2] }
  | _ => none }
def NumInvertsWrongFalsely : Prop := numInvertsRow.holds Tryd.pinned (OpenSpec.ofChange numInvertsWrong)

/-- 'lotterylaw01.NumMulDivs': WHATEVER THE INPUT: true; the input reads as it did. -/
def numMulDivsSpec : ChangeSpec := { name := "numMulDivs", fn := fun _ => fun
  | [d1, d2, d3] => { results := [.lit (.bool true)], args := [d1, d2, d3] }
  | _ => none }
def numMulDivsRow : OpenClaim := { program := "ytgloiddnbppblaadoor", sum := "a3c33df0350cf510922eb158c6df6dfc187b43c6f75dcd511a09b13bc2e73769", func := "lottery/lotterylaw01.NumMulDivs", spec := "numMulDivs", named := ["math/bits.divideError", "math/bits.overflowError", "internal/strconv.uint64pow10", "math/bits.deBruijn32tab", "math/bits.deBruijn64tab"], apart := false, laid := [("math/bits.deBruijn32tab", laid_math_bits_deBruijn32tab), ("math/bits.deBruijn64tab", laid_math_bits_deBruijn64tab), ("internal/strconv.uint64pow10", laid_internal_strconv_uint64pow10)] }
def NumMulDivsSaid : Prop := numMulDivsRow.holds Tryd.pinned (OpenSpec.ofChange numMulDivsSpec)

/-- ITS FALSE NEIGHBOUR: 'it returns false'. Refute it at one input. -/
def numMulDivsWrong : ChangeSpec := { name := "numMulDivs", fn := fun _ => fun
  | [d1, d2, d3] => { results := [.lit (.bool false)], args := [d1, d2, d3] }
  | _ => none }
def NumMulDivsWrongFalsely : Prop := numMulDivsRow.holds Tryd.pinned (OpenSpec.ofChange numMulDivsWrong)

/-- 'lotterylaw01.NumDivides': WHATEVER THE INPUT: true; the input reads as it did. -/
def numDividesSpec : ChangeSpec := { name := "numDivides", fn := fun _ => fun
  | [d1, d2, d3] => { results := [.lit (.bool true)], args := [d1, d2, d3] }
  | _ => none }
def numDividesRow : OpenClaim := { program := "ytgloiddnbppblaadoor", sum := "a3c33df0350cf510922eb158c6df6dfc187b43c6f75dcd511a09b13bc2e73769", func := "lottery/lotterylaw01.NumDivides", spec := "numDivides", named := ["math/bits.divideError", "math/bits.overflowError", "internal/strconv.uint64pow10", "math/bits.deBruijn32tab", "math/bits.deBruijn64tab"], apart := false, laid := [("math/bits.deBruijn32tab", laid_math_bits_deBruijn32tab), ("math/bits.deBruijn64tab", laid_math_bits_deBruijn64tab), ("internal/strconv.uint64pow10", laid_internal_strconv_uint64pow10)] }
def NumDividesSaid : Prop := numDividesRow.holds Tryd.pinned (OpenSpec.ofChange numDividesSpec)

/-- ITS FALSE NEIGHBOUR: 'it returns false'. Refute it at one input. -/
def numDividesWrong : ChangeSpec := { name := "numDivides", fn := fun _ => fun
  | [d1, d2, d3] => { results := [.lit (.bool false)], args := [d1, d2, d3] }
  | _ => none }
def NumDividesWrongFalsely : Prop := numDividesRow.holds Tryd.pinned (OpenSpec.ofChange numDividesWrong)

/-- 'lotterylaw01.NumPowers': WHATEVER THE INPUT: true; the input reads as it did. -/
def numPowersSpec : ChangeSpec := { name := "numPowers", fn := fun _ => fun
  | [d1, d2] => { results := [.lit (.bool true)], args := [d1, d2] }
  | _ => none }
def numPowersRow : OpenClaim := { program := "ytgloiddnbppblaadoor", sum := "a3c33df0350cf510922eb158c6df6dfc187b43c6f75dcd511a09b13bc2e73769", func := "lottery/lotterylaw01.NumPowers", spec := "numPowers", named := ["math/bits.divideError", "math/bits.overflowError", "internal/strconv.uint64pow10", "math/bits.deBruijn32tab", "math/bits.deBruijn64tab"], apart := false, laid := [("math/bits.deBruijn32tab", laid_math_bits_deBruijn32tab), ("math/bits.deBruijn64tab", laid_math_bits_deBruijn64tab), ("internal/strconv.uint64pow10", laid_internal_strconv_uint64pow10)] }
def NumPowersSaid : Prop := numPowersRow.holds Tryd.pinned (OpenSpec.ofChange numPowersSpec)

/-- ITS FALSE NEIGHBOUR: 'it returns false'. Refute it at one input. -/
def numPowersWrong : ChangeSpec := { name := "numPowers", fn := fun _ => fun
  | [d1, d2] => { results := [.lit (.bool false)], args := [d1, d2] }
  | _ => none }
def NumPowersWrongFalsely : Prop := numPowersRow.holds Tryd.pinned (OpenSpec.ofChange numPowersWrong)

/-- 'lotterylaw01.NumPowersGrow': WHATEVER THE INPUT: true; the input reads as it did. -/
def numPowersGrowSpec : ChangeSpec := { name := "numPowersGrow", fn := fun _ => fun
  | [d1, d2] => { results := [.lit (.bool true)], args := [d1, d2] }
  | _ => none }
def numPowersGrowRow : OpenClaim := { program := "ytgloiddnbppblaadoor", sum := "a3c33df0350cf510922eb158c6df6dfc187b43c6f75dcd511a09b13bc2e73769", func := "lottery/lotterylaw01.NumPowersGrow", spec := "numPowersGrow", named := ["math/bits.divideError", "math/bits.overflowError", "internal/strconv.uint64pow10", "math/bits.deBruijn32tab", "math/bits.deBruijn64tab"], apart := false, laid := [("math/bits.deBruijn32tab", laid_math_bits_deBruijn32tab), ("math/bits.deBruijn64tab", laid_math_bits_deBruijn64tab), ("internal/strconv.uint64pow10", laid_internal_strconv_uint64pow10)] }
def NumPowersGrowSaid : Prop := numPowersGrowRow.holds Tryd.pinned (OpenSpec.ofChange numPowersGrowSpec)

/-- ITS FALSE NEIGHBOUR: 'it returns false'. Refute it at one input. -/
def numPowersGrowWrong : ChangeSpec := { name := "numPowersGrow", fn := fun _ => fun
  | [d1, d2] => { results := [.lit (.bool false)], args := [d1, d2] }
  | _ => none }
def NumPowersGrowWrongFalsely : Prop := numPowersGrowRow.holds Tryd.pinned (OpenSpec.ofChange numPowersGrowWrong)

/-- 'lotterylaw01.NumGCDs': WHATEVER THE INPUT: true; the input reads as it did. -/
def numGCDsSpec : ChangeSpec := { name := "numGCDs", fn := fun _ => fun
  | [d1, d2] => { results := [.lit (.bool true)], args := [d1, d2] }
  | _ => none }
def numGCDsRow : OpenClaim := { program := "ytgloiddnbppblaadoor", sum := "a3c33df0350cf510922eb158c6df6dfc187b43c6f75dcd511a09b13bc2e73769", func := "lottery/lotterylaw01.NumGCDs", spec := "numGCDs", named := ["math/bits.divideError", "math/bits.overflowError", "internal/strconv.uint64pow10", "math/bits.deBruijn32tab", "math/bits.deBruijn64tab"], apart := false, laid := [("math/bits.deBruijn32tab", laid_math_bits_deBruijn32tab), ("math/bits.deBruijn64tab", laid_math_bits_deBruijn64tab), ("internal/strconv.uint64pow10", laid_internal_strconv_uint64pow10)] }
def NumGCDsSaid : Prop := numGCDsRow.holds Tryd.pinned (OpenSpec.ofChange numGCDsSpec)

/-- ITS FALSE NEIGHBOUR: 'it returns false'. Refute it at one input. -/
def numGCDsWrong : ChangeSpec := { name := "numGCDs", fn := fun _ => fun
  | [d1, d2] => { results := [.lit (.bool false)], args := [d1, d2] }
  | _ => none }
def NumGCDsWrongFalsely : Prop := numGCDsRow.holds Tryd.pinned (OpenSpec.ofChange numGCDsWrong)

/-- 'lotterylaw01.NumParses': WHATEVER THE INPUT: true; the input reads as it did. -/
def numParsesSpec : ChangeSpec := { name := "numParses", fn := fun _ => fun
  | [d] => { results := [.lit (.bool true)], args := [d] }
  | _ => none }
def numParsesRow : OpenClaim := { program := "ytgloiddnbppblaadoor", sum := "a3c33df0350cf510922eb158c6df6dfc187b43c6f75dcd511a09b13bc2e73769", func := "lottery/lotterylaw01.NumParses", spec := "numParses", named := ["internal/strconv.uint64pow10", "math/bits.deBruijn32tab", "math/bits.deBruijn64tab", "math/bits.divideError", "math/bits.overflowError"], apart := false, laid := [("math/bits.deBruijn32tab", laid_math_bits_deBruijn32tab), ("math/bits.deBruijn64tab", laid_math_bits_deBruijn64tab), ("internal/strconv.uint64pow10", laid_internal_strconv_uint64pow10)] }
def NumParsesSaid : Prop := numParsesRow.holds Tryd.pinned (OpenSpec.ofChange numParsesSpec)

/-- ITS FALSE NEIGHBOUR: 'it returns false'. Refute it at one input. -/
def numParsesWrong : ChangeSpec := { name := "numParses", fn := fun _ => fun
  | [d] => { results := [.lit (.bool false)], args := [d] }
  | _ => none }
def NumParsesWrongFalsely : Prop := numParsesRow.holds Tryd.pinned (OpenSpec.ofChange numParsesWrong)

/-- 'lotterylaw01.NumFormats': WHATEVER THE INPUT: true; the input reads as it did. -/
def numFormatsSpec : ChangeSpec := { name := "numFormats", fn := fun _ => fun
  | [d] => { results := [.lit (.bool true)], args := [d] }
  | _ => none }
def numFormatsRow : OpenClaim := { program := "ytgloiddnbppblaadoor", sum := "a3c33df0350cf510922eb158c6df6dfc187b43c6f75dcd511a09b13bc2e73769", func := "lottery/lotterylaw01.NumFormats", spec := "numFormats", named := ["internal/strconv.uint64pow10", "math/bits.deBruijn32tab", "math/bits.deBruijn64tab", "math/bits.divideError", "math/bits.overflowError"], apart := false, laid := [("math/bits.deBruijn32tab", laid_math_bits_deBruijn32tab), ("math/bits.deBruijn64tab", laid_math_bits_deBruijn64tab), ("internal/strconv.uint64pow10", laid_internal_strconv_uint64pow10)] }
def NumFormatsSaid : Prop := numFormatsRow.holds Tryd.pinned (OpenSpec.ofChange numFormatsSpec)

/-- ITS FALSE NEIGHBOUR: 'it returns false'. Refute it at one input. -/
def numFormatsWrong : ChangeSpec := { name := "numFormats", fn := fun _ => fun
  | [d] => { results := [.lit (.bool false)], args := [d] }
  | _ => none }
def NumFormatsWrongFalsely : Prop := numFormatsRow.holds Tryd.pinned (OpenSpec.ofChange numFormatsWrong)

/-- 'lotterylaw18.TicketnoInverts': WHATEVER THE INPUT: true; the input reads as it did. -/
def ticketnoInvertsSpec : ChangeSpec := { name := "ticketnoInverts", fn := fun _ => fun
  | [d1, d2, d3] => { results := [.lit (.bool true)], args := [d1, d2, d3] }
  | _ => none }
def ticketnoInvertsRow : OpenClaim := { program := "ytgloiddnbppblaadoor", sum := "a3c33df0350cf510922eb158c6df6dfc187b43c6f75dcd511a09b13bc2e73769", func := "lottery/lotterylaw18.TicketnoInverts", spec := "ticketnoInverts", inPlace := ["internal/abi.NoEscape", "internal/bytealg.MakeNoZero"], named := ["internal/strconv.uint64pow10", "math/bits.deBruijn32tab", "math/bits.deBruijn64tab", "lottery/ticketno.weights"], apart := false, laid := [("math/bits.deBruijn32tab", laid_math_bits_deBruijn32tab), ("math/bits.deBruijn64tab", laid_math_bits_deBruijn64tab), ("internal/strconv.uint64pow10", laid_internal_strconv_uint64pow10), ("lottery/ticketno.weights", laid_lottery_ticketno_weights)] }
def TicketnoInvertsSaid : Prop := ticketnoInvertsRow.holds Tryd.pinned (OpenSpec.ofChange ticketnoInvertsSpec)

/-- ITS FALSE NEIGHBOUR: 'it returns false'. Refute it at one input. -/
def ticketnoInvertsWrong : ChangeSpec := { name := "ticketnoInverts", fn := fun _ => fun
  | [d1, d2, d3] => { results := [.lit (.bool false)], args := [d1, d2, d3] }
  | _ => none }
def TicketnoInvertsWrongFalsely : Prop := ticketnoInvertsRow.holds Tryd.pinned (OpenSpec.ofChange ticketnoInvertsWrong)

/-- 'lotterylaw18.TicketnoParses': WHATEVER THE INPUT: true; the input reads as it did. -/
def ticketnoParsesSpec : ChangeSpec := { name := "ticketnoParses", fn := fun _ => fun
  | [d] => { results := [.lit (.bool true)], args := [d] }
  | _ => none }
def ticketnoParsesRow : OpenClaim := { program := "ytgloiddnbppblaadoor", sum := "a3c33df0350cf510922eb158c6df6dfc187b43c6f75dcd511a09b13bc2e73769", func := "lottery/lotterylaw18.TicketnoParses", spec := "ticketnoParses", inPlace := ["internal/abi.NoEscape", "internal/bytealg.MakeNoZero"], named := ["lottery/ticketno.weights", "internal/strconv.uint64pow10", "math/bits.deBruijn32tab", "math/bits.deBruijn64tab"], apart := false, laid := [("math/bits.deBruijn32tab", laid_math_bits_deBruijn32tab), ("math/bits.deBruijn64tab", laid_math_bits_deBruijn64tab), ("internal/strconv.uint64pow10", laid_internal_strconv_uint64pow10), ("lottery/ticketno.weights", laid_lottery_ticketno_weights)] }
def TicketnoParsesSaid : Prop := ticketnoParsesRow.holds Tryd.pinned (OpenSpec.ofChange ticketnoParsesSpec)

/-- ITS FALSE NEIGHBOUR: 'it returns false'. Refute it at one input. -/
def ticketnoParsesWrong : ChangeSpec := { name := "ticketnoParses", fn := fun _ => fun
  | [d] => { results := [.lit (.bool false)], args := [d] }
  | _ => none }
def TicketnoParsesWrongFalsely : Prop := ticketnoParsesRow.holds Tryd.pinned (OpenSpec.ofChange ticketnoParsesWrong)

/-- 'lotterylaw18.TicketnoDetects': WHATEVER THE INPUT: true; the input reads as it did. -/
def ticketnoDetectsSpec : ChangeSpec := { name := "ticketnoDetects", fn := fun _ => fun
  | [d1, d2, d3, d4] => { results := [.lit (.bool true)], args := [d1, d2, d3, d4] }
  | _ => none }
def ticketnoDetectsRow : OpenClaim := { program := "ytgloiddnbppblaadoor", sum := "a3c33df0350cf510922eb158c6df6dfc187b43c6f75dcd511a09b13bc2e73769", func := "lottery/lotterylaw18.TicketnoDetects", spec := "ticketnoDetects", inPlace := ["internal/abi.NoEscape", "internal/bytealg.MakeNoZero"], named := ["internal/strconv.uint64pow10", "math/bits.deBruijn32tab", "math/bits.deBruijn64tab", "lottery/ticketno.weights"], apart := false, laid := [("math/bits.deBruijn32tab", laid_math_bits_deBruijn32tab), ("math/bits.deBruijn64tab", laid_math_bits_deBruijn64tab), ("internal/strconv.uint64pow10", laid_internal_strconv_uint64pow10), ("lottery/ticketno.weights", laid_lottery_ticketno_weights)] }
def TicketnoDetectsSaid : Prop := ticketnoDetectsRow.holds Tryd.pinned (OpenSpec.ofChange ticketnoDetectsSpec)

/-- ITS FALSE NEIGHBOUR: 'it returns false'. Refute it at one input. -/
def ticketnoDetectsWrong : ChangeSpec := { name := "ticketnoDetects", fn := fun _ => fun
  | [d1, d2, d3, d4] => { results := [.lit (.bool false)], args := [d1, d2, d3, d4] }
  | _ => none }
def TicketnoDetectsWrongFalsely : Prop := ticketnoDetectsRow.holds Tryd.pinned (OpenSpec.ofChange ticketnoDetectsWrong)

/-- 'lotterylaw18.TicketnoSwaps': WHATEVER THE INPUT: true; the input reads as it did. -/
def ticketnoSwapsSpec : ChangeSpec := { name := "ticketnoSwaps", fn := fun _ => fun
  | [d1, d2, d3] => { results := [.lit (.bool true)], args := [d1, d2, d3] }
  | _ => none }
def ticketnoSwapsRow : OpenClaim := { program := "ytgloiddnbppblaadoor", sum := "a3c33df0350cf510922eb158c6df6dfc187b43c6f75dcd511a09b13bc2e73769", func := "lottery/lotterylaw18.TicketnoSwaps", spec := "ticketnoSwaps", inPlace := ["internal/abi.NoEscape", "internal/bytealg.MakeNoZero"], named := ["internal/strconv.uint64pow10", "math/bits.deBruijn32tab", "math/bits.deBruijn64tab", "lottery/ticketno.weights"], apart := false, laid := [("math/bits.deBruijn32tab", laid_math_bits_deBruijn32tab), ("math/bits.deBruijn64tab", laid_math_bits_deBruijn64tab), ("internal/strconv.uint64pow10", laid_internal_strconv_uint64pow10), ("lottery/ticketno.weights", laid_lottery_ticketno_weights)] }
def TicketnoSwapsSaid : Prop := ticketnoSwapsRow.holds Tryd.pinned (OpenSpec.ofChange ticketnoSwapsSpec)

/-- ITS FALSE NEIGHBOUR: 'it returns false'. Refute it at one input. -/
def ticketnoSwapsWrong : ChangeSpec := { name := "ticketnoSwaps", fn := fun _ => fun
  | [d1, d2, d3] => { results := [.lit (.bool false)], args := [d1, d2, d3] }
  | _ => none }
def TicketnoSwapsWrongFalsely : Prop := ticketnoSwapsRow.holds Tryd.pinned (OpenSpec.ofChange ticketnoSwapsWrong)

/- THE SECOND FORM. 'bulk': how many values and letters a reading holds, each counted each time it is reached (what is shared counts as often as it is met; a slice's spare places count too). A statement '..UptoSaid' is the law's where the arguments, and the package variables that the reading takes, are together of bulk at most 1048576: NARROWER than '..Said'. Prove '..Said' where nothing that the law and all that it calls make is longer than what came in: it says more and counts as full. Else prove '..UptoSaid'. A law counts once. -/
mutual
def uptoBulk {H : Type} : DataW H → Nat
  | .lit (.string bytes) => bytes.length + 1
  | .lit _ => 1
  | .nil => 1
  | .ptr d => uptoBulk d + 1
  | .slice elems spare => uptoBulkAll elems + uptoBulkAll spare + 1
  | .agg parts => uptoBulkAll parts + 1
  | .iface _ d => uptoBulk d + 1
  | .map entries => uptoBulkEntries entries + 1
  | .held _ => 1
def uptoBulkAll {H : Type} : List (DataW H) → Nat
  | [] => 0
  | d :: r => uptoBulk d + uptoBulkAll r
def uptoBulkEntries {H : Type} : List (Lit × DataW H) → Nat
  | [] => 0
  | x :: r => uptoBulkEntry x + uptoBulkEntries r
def uptoBulkEntry {H : Type} : Lit × DataW H → Nat
  | (.string bytes, d) => bytes.length + uptoBulk d + 1
  | (_, d) => uptoBulk d + 1
 end
def uptoSmall : (H : Type) → List (DataW H) → Bool := fun _ ds => decide (uptoBulkAll ds ≤ 1048576)
def OpenSpec.upto (s : _root_.Go.ChangeSpec) : _root_.Go.OpenSpec := { _root_.Go.OpenSpec.ofChange s with cond := some uptoSmall }

/-- 'lotterylaw18.TicketnoMakes', WHERE WHAT IT READS IS OF BULK AT MOST 1048576: true; the input reads as it did. -/
def ticketnoMakesUptoRow : OpenClaim := { program := "ytgloiddnbppblaadoor", sum := "a3c33df0350cf510922eb158c6df6dfc187b43c6f75dcd511a09b13bc2e73769", func := "lottery/lotterylaw18.TicketnoMakes", spec := "ticketnoMakes", inPlace := ["internal/abi.NoEscape", "internal/bytealg.MakeNoZero"], named := ["internal/strconv.uint64pow10", "math/bits.deBruijn32tab", "math/bits.deBruijn64tab", "lottery/ticketno.weights"], apart := false, laid := [("math/bits.deBruijn32tab", laid_math_bits_deBruijn32tab), ("math/bits.deBruijn64tab", laid_math_bits_deBruijn64tab), ("internal/strconv.uint64pow10", laid_internal_strconv_uint64pow10), ("lottery/ticketno.weights", laid_lottery_ticketno_weights)], narrowed := true }
def TicketnoMakesUptoSaid : Prop := ticketnoMakesUptoRow.holds Tryd.pinned (OpenSpec.upto ticketnoMakesSpec)

/-- 'lotterylaw18.TicketnoDiffers', WHERE WHAT IT READS IS OF BULK AT MOST 1048576: true; the input reads as it did. -/
def ticketnoDiffersUptoRow : OpenClaim := { program := "ytgloiddnbppblaadoor", sum := "a3c33df0350cf510922eb158c6df6dfc187b43c6f75dcd511a09b13bc2e73769", func := "lottery/lotterylaw18.TicketnoDiffers", spec := "ticketnoDiffers", inPlace := ["internal/abi.NoEscape", "internal/bytealg.MakeNoZero"], named := ["internal/strconv.uint64pow10", "math/bits.deBruijn32tab", "math/bits.deBruijn64tab", "lottery/ticketno.weights"], apart := false, laid := [("math/bits.deBruijn32tab", laid_math_bits_deBruijn32tab), ("math/bits.deBruijn64tab", laid_math_bits_deBruijn64tab), ("internal/strconv.uint64pow10", laid_internal_strconv_uint64pow10), ("lottery/ticketno.weights", laid_lottery_ticketno_weights)], narrowed := true }
def TicketnoDiffersUptoSaid : Prop := ticketnoDiffersUptoRow.holds Tryd.pinned (OpenSpec.upto ticketnoDiffersSpec)

/-- 'lotterylaw01.NumAdds', WHERE WHAT IT READS IS OF BULK AT MOST 1048576: true; the input reads as it did. -/
def numAddsUptoRow : OpenClaim := { program := "ytgloiddnbppblaadoor", sum := "a3c33df0350cf510922eb158c6df6dfc187b43c6f75dcd511a09b13bc2e73769", func := "lottery/lotterylaw01.NumAdds", spec := "numAdds", named := ["math/bits.divideError", "math/bits.overflowError", "internal/strconv.uint64pow10", "math/bits.deBruijn32tab", "math/bits.deBruijn64tab"], apart := false, laid := [("math/bits.deBruijn32tab", laid_math_bits_deBruijn32tab), ("math/bits.deBruijn64tab", laid_math_bits_deBruijn64tab), ("internal/strconv.uint64pow10", laid_internal_strconv_uint64pow10)], narrowed := true }
def NumAddsUptoSaid : Prop := numAddsUptoRow.holds Tryd.pinned (OpenSpec.upto numAddsSpec)

/-- 'lotterylaw01.NumInverts', WHERE WHAT IT READS IS OF BULK AT MOST 1048576: true; the input reads as it did. -/
def numInvertsUptoRow : OpenClaim := { program := "ytgloiddnbppblaadoor", sum := "a3c33df0350cf510922eb158c6df6dfc187b43c6f75dcd511a09b13bc2e73769", func := "lottery/lotterylaw01.NumInverts", spec := "numInverts", named := ["math/bits.divideError", "math/bits.overflowError", "internal/strconv.uint64pow10", "math/bits.deBruijn32tab", "math/bits.deBruijn64tab"], apart := false, laid := [("math/bits.deBruijn32tab", laid_math_bits_deBruijn32tab), ("math/bits.deBruijn64tab", laid_math_bits_deBruijn64tab), ("internal/strconv.uint64pow10", laid_internal_strconv_uint64pow10)], narrowed := true }
def NumInvertsUptoSaid : Prop := numInvertsUptoRow.holds Tryd.pinned (OpenSpec.upto numInvertsSpec)

/-- 'lotterylaw01.NumMulDivs', WHERE WHAT IT READS IS OF BULK AT MOST 1048576: true; the input reads as it did. -/
def numMulDivsUptoRow : OpenClaim := { program := "ytgloiddnbppblaadoor", sum := "a3c33df0350cf510922eb158c6df6dfc187b43c6f75dcd511a09b13bc2e73769", func := "lottery/lotterylaw01.NumMulDivs", spec := "numMulDivs", named := ["math/bits.divideError", "math/bits.overflowError", "internal/strconv.uint64pow10", "math/bits.deBruijn32tab", "math/bits.deBruijn64tab"], apart := false, laid := [("math/bits.deBruijn32tab", laid_math_bits_deBruijn32tab), ("math/bits.deBruijn64tab", laid_math_bits_deBruijn64tab), ("internal/strconv.uint64pow10", laid_internal_strconv_uint64pow10)], narrowed := true }
def NumMulDivsUptoSaid : Prop := numMulDivsUptoRow.holds Tryd.pinned (OpenSpec.upto numMulDivsSpec)

/-- 'lotterylaw01.NumDivides', WHERE WHAT IT READS IS OF BULK AT MOST 1048576: true; the input reads as it did. -/
def numDividesUptoRow : OpenClaim := { program := "ytgloiddnbppblaadoor", sum := "a3c33df0350cf510922eb158c6df6dfc187b43c6f75dcd511a09b13bc2e73769", func := "lottery/lotterylaw01.NumDivides", spec := "numDivides", named := ["math/bits.divideError", "math/bits.overflowError", "internal/strconv.uint64pow10", "math/bits.deBruijn32tab", "math/bits.deBruijn64tab"], apart := false, laid := [("math/bits.deBruijn32tab", laid_math_bits_deBruijn32tab), ("math/bits.deBruijn64tab", laid_math_bits_deBruijn64tab), ("internal/strconv.uint64pow10", laid_internal_strconv_uint64pow10)], narrowed := true }
def NumDividesUptoSaid : Prop := numDividesUptoRow.holds Tryd.pinned (OpenSpec.upto numDividesSpec)

/-- 'lotterylaw01.NumPowers', WHERE WHAT IT READS IS OF BULK AT MOST 1048576: true; the input reads as it did. -/
def numPowersUptoRow : OpenClaim := { program := "ytgloiddnbppblaadoor", sum := "a3c33df0350cf510922eb158c6df6dfc187b43c6f75dcd511a09b13bc2e73769", func := "lottery/lotterylaw01.NumPowers", spec := "numPowers", named := ["math/bits.divideError", "math/bits.overflowError", "internal/strconv.uint64pow10", "math/bits.deBruijn32tab", "math/bits.deBruijn64tab"], apart := false, laid := [("math/bits.deBruijn32tab", laid_math_bits_deBruijn32tab), ("math/bits.deBruijn64tab", laid_math_bits_deBruijn64tab), ("internal/strconv.uint64pow10", laid_internal_strconv_uint64pow10)], narrowed := true }
def NumPowersUptoSaid : Prop := numPowersUptoRow.holds Tryd.pinned (OpenSpec.upto numPowersSpec)

/-- 'lotterylaw01.NumPowersGrow', WHERE WHAT IT READS IS OF BULK AT MOST 1048576: true; the input reads as it did. -/
def numPowersGrowUptoRow : OpenClaim := { program := "ytgloiddnbppblaadoor", sum := "a3c33df0350cf510922eb158c6df6dfc187b43c6f75dcd511a09b13bc2e73769", func := "lottery/lotterylaw01.NumPowersGrow", spec := "numPowersGrow", named := ["math/bits.divideError", "math/bits.overflowError", "internal/strconv.uint64pow10", "math/bits.deBruijn32tab", "math/bits.deBruijn64tab"], apart := false, laid := [("math/bits.deBruijn32tab", laid_math_bits_deBruijn32tab), ("math/bits.deBruijn64tab", laid_math_bits_deBruijn64tab), ("internal/strconv.uint64pow10", laid_internal_strconv_uint64pow10)], narrowed := true }
def NumPowersGrowUptoSaid : Prop := numPowersGrowUptoRow.holds Tryd.pinned (OpenSpec.upto numPowersGrowSpec)

/-- 'lotterylaw01.NumGCDs', WHERE WHAT IT READS IS OF BULK AT MOST 1048576: true; the input reads as it did. -/
def numGCDsUptoRow : OpenClaim := { program := "ytgloiddnbppblaadoor", sum := "a3c33df0350cf510922eb158c6df6dfc187b43c6f75dcd511a09b13bc2e73769", func := "lottery/lotterylaw01.NumGCDs", spec := "numGCDs", named := ["math/bits.divideError", "math/bits.overflowError", "internal/strconv.uint64pow10", "math/bits.deBruijn32tab", "math/bits.deBruijn64tab"], apart := false, laid := [("math/bits.deBruijn32tab", laid_math_bits_deBruijn32tab), ("math/bits.deBruijn64tab", laid_math_bits_deBruijn64tab), ("internal/strconv.uint64pow10", laid_internal_strconv_uint64pow10)], narrowed := true }
def NumGCDsUptoSaid : Prop := numGCDsUptoRow.holds Tryd.pinned (OpenSpec.upto numGCDsSpec)

/-- 'lotterylaw01.NumParses', WHERE WHAT IT READS IS OF BULK AT MOST 1048576: true; the input reads as it did. -/
def numParsesUptoRow : OpenClaim := { program := "ytgloiddnbppblaadoor", sum := "a3c33df0350cf510922eb158c6df6dfc187b43c6f75dcd511a09b13bc2e73769", func := "lottery/lotterylaw01.NumParses", spec := "numParses", named := ["internal/strconv.uint64pow10", "math/bits.deBruijn32tab", "math/bits.deBruijn64tab", "math/bits.divideError", "math/bits.overflowError"], apart := false, laid := [("math/bits.deBruijn32tab", laid_math_bits_deBruijn32tab), ("math/bits.deBruijn64tab", laid_math_bits_deBruijn64tab), ("internal/strconv.uint64pow10", laid_internal_strconv_uint64pow10)], narrowed := true }
def NumParsesUptoSaid : Prop := numParsesUptoRow.holds Tryd.pinned (OpenSpec.upto numParsesSpec)

/-- 'lotterylaw01.NumFormats', WHERE WHAT IT READS IS OF BULK AT MOST 1048576: true; the input reads as it did. -/
def numFormatsUptoRow : OpenClaim := { program := "ytgloiddnbppblaadoor", sum := "a3c33df0350cf510922eb158c6df6dfc187b43c6f75dcd511a09b13bc2e73769", func := "lottery/lotterylaw01.NumFormats", spec := "numFormats", named := ["internal/strconv.uint64pow10", "math/bits.deBruijn32tab", "math/bits.deBruijn64tab", "math/bits.divideError", "math/bits.overflowError"], apart := false, laid := [("math/bits.deBruijn32tab", laid_math_bits_deBruijn32tab), ("math/bits.deBruijn64tab", laid_math_bits_deBruijn64tab), ("internal/strconv.uint64pow10", laid_internal_strconv_uint64pow10)], narrowed := true }
def NumFormatsUptoSaid : Prop := numFormatsUptoRow.holds Tryd.pinned (OpenSpec.upto numFormatsSpec)

/-- 'lotterylaw18.TicketnoInverts', WHERE WHAT IT READS IS OF BULK AT MOST 1048576: true; the input reads as it did. -/
def ticketnoInvertsUptoRow : OpenClaim := { program := "ytgloiddnbppblaadoor", sum := "a3c33df0350cf510922eb158c6df6dfc187b43c6f75dcd511a09b13bc2e73769", func := "lottery/lotterylaw18.TicketnoInverts", spec := "ticketnoInverts", inPlace := ["internal/abi.NoEscape", "internal/bytealg.MakeNoZero"], named := ["internal/strconv.uint64pow10", "math/bits.deBruijn32tab", "math/bits.deBruijn64tab", "lottery/ticketno.weights"], apart := false, laid := [("math/bits.deBruijn32tab", laid_math_bits_deBruijn32tab), ("math/bits.deBruijn64tab", laid_math_bits_deBruijn64tab), ("internal/strconv.uint64pow10", laid_internal_strconv_uint64pow10), ("lottery/ticketno.weights", laid_lottery_ticketno_weights)], narrowed := true }
def TicketnoInvertsUptoSaid : Prop := ticketnoInvertsUptoRow.holds Tryd.pinned (OpenSpec.upto ticketnoInvertsSpec)

/-- 'lotterylaw18.TicketnoParses', WHERE WHAT IT READS IS OF BULK AT MOST 1048576: true; the input reads as it did. -/
def ticketnoParsesUptoRow : OpenClaim := { program := "ytgloiddnbppblaadoor", sum := "a3c33df0350cf510922eb158c6df6dfc187b43c6f75dcd511a09b13bc2e73769", func := "lottery/lotterylaw18.TicketnoParses", spec := "ticketnoParses", inPlace := ["internal/abi.NoEscape", "internal/bytealg.MakeNoZero"], named := ["lottery/ticketno.weights", "internal/strconv.uint64pow10", "math/bits.deBruijn32tab", "math/bits.deBruijn64tab"], apart := false, laid := [("math/bits.deBruijn32tab", laid_math_bits_deBruijn32tab), ("math/bits.deBruijn64tab", laid_math_bits_deBruijn64tab), ("internal/strconv.uint64pow10", laid_internal_strconv_uint64pow10), ("lottery/ticketno.weights", laid_lottery_ticketno_weights)], narrowed := true }
def TicketnoParsesUptoSaid : Prop := ticketnoParsesUptoRow.holds Tryd.pinned (OpenSpec.upto ticketnoParsesSpec)

/-- 'lotterylaw18.TicketnoDetects', WHERE WHAT IT READS IS OF BULK AT MOST 1048576: true; the input reads as it did. -/
def ticketnoDetectsUptoRow : OpenClaim := { program := "ytgloiddnbppblaadoor", sum := "a3c33df0350cf510922eb158c6df6dfc187b43c6f75dcd511a09b13bc2e73769", func := "lottery/lotterylaw18.TicketnoDetects", spec := "ticketnoDetects", inPlace := ["internal/abi.NoEscape", "internal/bytealg.MakeNoZero"], named := ["internal/strconv.uint64pow10", "math/bits.deBruijn32tab", "math/bits.deBruijn64tab", "lottery/ticketno.weights"], apart := false, laid := [("math/bits.deBruijn32tab", laid_math_bits_deBruijn32tab), ("math/bits.deBruijn64tab", laid_math_bits_deBruijn64tab), ("internal/strconv.uint64pow10", laid_internal_strconv_uint64pow10), ("lottery/ticketno.weights", laid_lottery_ticketno_weights)], narrowed := true }
def TicketnoDetectsUptoSaid : Prop := ticketnoDetectsUptoRow.holds Tryd.pinned (OpenSpec.upto ticketnoDetectsSpec)

/-- 'lotterylaw18.TicketnoSwaps', WHERE WHAT IT READS IS OF BULK AT MOST 1048576: true; the input reads as it did. -/
def ticketnoSwapsUptoRow : OpenClaim := { program := "ytgloiddnbppblaadoor", sum := "a3c33df0350cf510922eb158c6df6dfc187b43c6f75dcd511a09b13bc2e73769", func := "lottery/lotterylaw18.TicketnoSwaps", spec := "ticketnoSwaps", inPlace := ["internal/abi.NoEscape", "internal/bytealg.MakeNoZero"], named := ["internal/strconv.uint64pow10", "math/bits.deBruijn32tab", "math/bits.deBruijn64tab", "lottery/ticketno.weights"], apart := false, laid := [("math/bits.deBruijn32tab", laid_math_bits_deBruijn32tab), ("math/bits.deBruijn64tab", laid_math_bits_deBruijn64tab), ("internal/strconv.uint64pow10", laid_internal_strconv_uint64pow10), ("lottery/ticketno.weights", laid_lottery_ticketno_weights)], narrowed := true }
def TicketnoSwapsUptoSaid : Prop := ticketnoSwapsUptoRow.holds Tryd.pinned (OpenSpec.upto ticketnoSwapsSpec)

end Rows
end Go.Proofs.YtgloiddnbppblaaDoor
