/- The functions of the program, as Lean functions (printed by a program). -/
import Derived.Test.YtgmnnlkhmpceiaaDoorAbF1
namespace Go.Ab
open Go
def gStrconv_Itoa (p0 : Int) : Option (List UInt8) :=
  some (Lib.itoa p0)
def iDigits (p0 : Int) : Option (List UInt8) :=
  (gStrconv_Itoa p0) >>= fun (y1 : (List UInt8)) => some y1
def iAliasFor (p0 : Int) (p1 : Int) : Option (List UInt8) :=
  (iDigits p0) >>= fun (y1 : (List UInt8)) => (catS [113] y1) >>= fun (y2 : (List UInt8)) => (catS y2 [95]) >>= fun (y3 : (List UInt8)) => (iDigits p1) >>= fun (y4 : (List UInt8)) => (catS y3 y4) >>= fun (y5 : (List UInt8)) => some y5
mutual
def sDigits_J1 (x0 : Int) (p0 : Int) (x4 : (List UInt8)) (x5 : Int) : Option (List UInt8) :=
  (ofBytes ([(IntKind.wrap .u8 (IntKind.wrap .i64 (48 + x5)))] : List Int)) >>= fun (y2 : (List UInt8)) => (catS y2 x4) >>= fun (y3 : (List UInt8)) => sDigits_L0 p0 (IntKind.wrap .i64 (Int.tdiv x0 10)) y3
  partial_fixpoint
def sDigits_L0 (p0 : Int) (x0 : Int) (x4 : (List UInt8)) : Option (List UInt8) :=
  if (!decide (x0 = 0)) = true then (if (decide ((Int.tmod x0 10) < 0)) = true then (sDigits_J1 x0 p0 x4 (IntKind.wrap .i64 (0 - (Int.tmod x0 10)))) else (sDigits_J1 x0 p0 x4 (Int.tmod x0 10))) else (if (decide (p0 < 0)) = true then ((catS [45] x4) >>= fun (y1 : (List UInt8)) => some y1) else (some x4))
  partial_fixpoint
end
def sDigits (p0 : Int) : Option (List UInt8) :=
  if (decide (p0 = 0)) = true then (some [48]) else (sDigits_L0 p0 p0 [])
def sAliasFor (p0 : Int) (p1 : Int) : Option (List UInt8) :=
  (sDigits p0) >>= fun (y1 : (List UInt8)) => (catS [113] y1) >>= fun (y2 : (List UInt8)) => (catS y2 [95]) >>= fun (y3 : (List UInt8)) => (sDigits p1) >>= fun (y4 : (List UInt8)) => (catS y3 y4) >>= fun (y5 : (List UInt8)) => some y5
def wFnExactAliasFor (p0 : Int) (p1 : Int) : Option Bool :=
  (sAliasFor p0 p1) >>= fun (y1 : (List UInt8)) => (iAliasFor p0 p1) >>= fun (y2 : (List UInt8)) => if (!decide (y2 = y1)) = true then (some false) else (some true)
end Go.Ab
