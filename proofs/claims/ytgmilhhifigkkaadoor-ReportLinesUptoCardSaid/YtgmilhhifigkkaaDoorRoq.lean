/- The law ReportLines over the form's readings. -/
import Derived.Test.YtgmilhhifigkkaaDoorRop
namespace Go.Proofs.YtgmilhhifigkkaaDoor
open Go.ChangeShapes Go.WideShapes Go.ChangeAt Go.RowKit Go.Lott
open Go.Lott.Mny Go.Lott.Rp
theorem reportLines_walk (gn : ByteArray) (y : Nat → Int) (p1 : Option Addr) (q1 r1 : Nat) (p2 : Option Addr) (q2 r2 : Nat) (n : Int) (a1 : Option Addr) (n1 c1 : Nat) (z1 : Nat → Int) (a2 : Option Addr) (n2 c2 : Nat) (z2 : Nat → Int) (a3 : Option Addr) (n3 c3 : Nat) (z3 : Nat → Int) (f : Int) (s : ByteArray) (ac : Option Addr) (nc cc : Nat) (zc : Nat → Int) (ae : Option Addr) (ne ce : Nat) (ze : Nat → Int) (ap : Option Addr) (np cp : Nat) (zp : Nat → Int) (br dr : Int) (an : Option Addr) (nn cn : Nat) (zn : Nat → Int) (rs ro : Int) (w : World)
    (hgn : gn.size ≤ 2000000) (hn : (Lit.int .i64 n).wf = true) (hr1 : NRow w a1 n1 z1) (hr2 : NRow w a2 n2 z2) (hr3 : NRow w a3 n3 z3) (hf : I64 f) (hs : s.size ≤ 2000000) (hrc : NRow w ac nc zc) (hre : NRow w ae ne ze) (hrp : NRow w ap np zp) (hbr : I64 br) (hdr : I64 dr) (hrn : NRow w an nn zn) (hrs : I64 rs) (hro : I64 ro) (hp : P10 w) :
    Calls Tryd.prog 8 #[.agg #[.string gn, .int .i64 (y 1), .int .i64 (y 2), .int .i64 (y 3), .int .i64 (y 4), .int .i64 (y 5), .int .i64 (y 6), .int .i64 (y 7), .int .i64 (y 8), .int .i64 (y 9), .int .i64 (y 10), .int .i64 (y 11), .int .i64 (y 12), .int .i64 (y 13), .int .i64 (y 14), .int .i64 (y 15), .int .i64 (y 16), .int .i64 (y 17), .int .i64 (y 18), .int .i64 (y 19), .slice p1 q1 r1, .slice p2 q2 r2], .int .i64 n, .agg #[.slice a1 n1 c1, .slice a2 n2 c2, .slice a3 n3 c3, .int .i64 f, .string s], .agg #[.slice ac nc cc, .slice ae ne ce, .slice ap np cp, .int .i64 br, .int .i64 dr, .slice an nn cn, .int .i64 rs, .int .i64 ro]] w (RetB (.bool true) w) := by
  by_cases hm : smB n1 n2 n3 nc nn = true ∧ lnc gn.data.toList = 0 ∧ lnc s.data.toList = 0
  · exact reportLines_yes gn y p1 q1 r1 p2 q2 r2 n a1 n1 c1 z1 a2 n2 c2 z2 a3 n3 c3 z3 f s ac nc cc zc ae ne ce ze ap np cp zp br dr an nn cn zn rs ro w hgn (i64_of hn) hr1 hr2 hr3 hf hs hrc hre hrp hbr hdr hrn hrs hro hp hm.1 hm.2.1 hm.2.2
  · exact reportLines_no gn y p1 q1 r1 p2 q2 r2 n a1 n1 c1 a2 n2 c2 a3 n3 c3 f s ac nc cc ae ne ce ap np cp br dr an nn cn rs ro w hgn hs hp hm
end Go.Proofs.YtgmilhhifigkkaaDoor
