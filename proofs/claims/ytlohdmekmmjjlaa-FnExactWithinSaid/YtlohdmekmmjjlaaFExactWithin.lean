/- The functions of the program, as Lean functions (printed by a program). -/
import Derived.Test.YtlohdmekmmjjlaaAbF0
namespace Go.Ab
open Go
structure GValue where
  kind : Int
  num : Int
  text : (List UInt8)
instance : Inhabited GValue := ⟨(GValue.mk 0 0 [])⟩
def okGValue (x : GValue) : Prop := okI x.kind ∧ okI x.num ∧ okS x.text
def iBoolValue_J0 (b3_1 : Int) : Option GValue :=
  some (GValue.mk 3 b3_1 [])
def iBoolValue (p0 : Bool) : Option GValue :=
  if p0 = true then (iBoolValue_J0 1) else (iBoolValue_J0 0)
def iAddNum (p0 : Int) (p1 : Int) : Option (Int × Bool) :=
  if (if (if (decide (0 < p1)) = true then (decide ((IntKind.wrap .i64 (9223372036854775807 - p1)) < p0)) else false) = true then true else (if (decide (p1 < 0)) = true then (decide (p0 < (IntKind.wrap .i64 ((-9223372036854775808) - p1)))) else false)) = true then (some (0, false)) else (some ((IntKind.wrap .i64 (p0 + p1)), true))
def iIntValue (p0 : Int) : Option GValue :=
  some (GValue.mk 1 p0 [])
def iArithmetic_J0 (x8 : Int) (x9 : Bool) : Option (GValue × Int) :=
  if (!x9) = true then (some ((GValue.mk 0 0 []), 2)) else ((iIntValue x8) >>= fun (y5 : GValue) => some (y5, 0))
def iDivided (p0 : Int) (p1 : Int) (p2 : Int) : Option (GValue × Int) :=
  if (decide (p2 = 0)) = true then (some ((GValue.mk 0 0 []), 3)) else (if (decide (p0 = 14)) = true then ((remG p1 p2) >>= fun (y1 : Int) => (iIntValue y1) >>= fun (y2 : GValue) => some (y2, 0)) else (if (if (decide (p1 = (-9223372036854775808))) = true then (decide (p2 = (-1))) else false) = true then (some ((GValue.mk 0 0 []), 2)) else ((quoG .i64 p1 p2) >>= fun (y3 : Int) => (iIntValue y3) >>= fun (y4 : GValue) => some (y4, 0))))
def iMulNum (p0 : Int) (p1 : Int) : Option (Int × Bool) :=
  (if (true && ((!decide (p0 = 0)) == true)) = true then quoG .i64 (IntKind.wrap .i64 (p0 * p1)) p0 else some default) >>= fun (y1 : Int) => if (if (!decide (p0 = 0)) = true then (if (!decide (y1 = p1)) = true then true else (if (decide (p0 = (-1))) = true then (decide (p1 = (-9223372036854775808))) else false)) else false) = true then (some (0, false)) else (some ((IntKind.wrap .i64 (p0 * p1)), true))
def iSubNum (p0 : Int) (p1 : Int) : Option (Int × Bool) :=
  if (if (if (decide (p1 < 0)) = true then (decide ((IntKind.wrap .i64 (9223372036854775807 + p1)) < p0)) else false) = true then true else (if (decide (0 < p1)) = true then (decide (p0 < (IntKind.wrap .i64 ((-9223372036854775808) + p1)))) else false)) = true then (some (0, false)) else (some ((IntKind.wrap .i64 (p0 - p1)), true))
def iArithmetic (p0 : Int) (p1 : Int) (p2 : Int) : Option (GValue × Int) :=
  if (decide (p0 = 10)) = true then ((iAddNum p1 p2) >>= fun (y1 : Int × Bool) => iArithmetic_J0 y1.1 y1.2) else (if (decide (p0 = 11)) = true then ((iSubNum p1 p2) >>= fun (y2 : Int × Bool) => iArithmetic_J0 y2.1 y2.2) else (if (decide (p0 = 12)) = true then ((iMulNum p1 p2) >>= fun (y3 : Int × Bool) => iArithmetic_J0 y3.1 y3.2) else ((iDivided p0 p1 p2) >>= fun (y4 : GValue × Int) => some (y4.1, y4.2))))
def gCmp_isNaN_int (p0 : Int) : Option Bool :=
  some (!decide (p0 = p0))
def gCmp_Compare_int (p0 : Int) (p1 : Int) : Option Int :=
  (gCmp_isNaN_int p0) >>= fun (y1 : Bool) => (gCmp_isNaN_int p1) >>= fun (y2 : Bool) => if y1 = true then (if y2 = true then (some 0) else (some (-1))) else (if y2 = true then (some 1) else (if (decide (p0 < p1)) = true then (some (-1)) else (if (decide (p1 < p0)) = true then (some 1) else (some 0))))
def gCmp_isNaN_string (p0 : (List UInt8)) : Option Bool :=
  some (!decide (p0 = p0))
def gCmp_Compare_string (p0 : (List UInt8)) (p1 : (List UInt8)) : Option Int :=
  (gCmp_isNaN_string p0) >>= fun (y1 : Bool) => (gCmp_isNaN_string p1) >>= fun (y2 : Bool) => if y1 = true then (if y2 = true then (some 0) else (some (-1))) else (if y2 = true then (some 1) else (if (Op.bytesLess p0 p1) = true then (some (-1)) else (if (!(Op.bytesLess p0 p1 || decide (p0 = p1))) = true then (some 1) else (some 0))))
def gCmp_Or_int_L0 (p0 : (List Int)) (x8 : Int) : Option Int :=
  if (decide (x8 < (p0.length : Int))) = true then ((idx p0 x8) >>= fun (y1 : Int) => if (!decide (y1 = 0)) = true then (some y1) else (gCmp_Or_int_L0 p0 (IntKind.wrap .i64 (x8 + 1)))) else (some 0)
  partial_fixpoint
def gCmp_Or_int (p0 : (List Int)) : Option Int :=
  gCmp_Or_int_L0 p0 0
def iOrder (p0 : GValue) (p1 : GValue) : Option Int :=
  (gCmp_Compare_int p0.kind p1.kind) >>= fun (y1 : Int) => (gCmp_Compare_int p0.num p1.num) >>= fun (y2 : Int) => (gCmp_Compare_string p0.text p1.text) >>= fun (y3 : Int) => (gCmp_Or_int ([y1, y2, y3] : List Int)) >>= fun (y4 : Int) => some y4
def iCompared (p0 : Int) (p1 : GValue) (p2 : GValue) : Option GValue :=
  (iOrder p1 p2) >>= fun (y1 : Int) => if (decide (p0 = 3)) = true then ((iBoolValue (decide (y1 = 0))) >>= fun (y2 : GValue) => some y2) else (if (decide (p0 = 4)) = true then ((iBoolValue (!decide (y1 = 0))) >>= fun (y3 : GValue) => some y3) else (if (decide (p0 = 5)) = true then ((iBoolValue (decide (y1 < 0))) >>= fun (y4 : GValue) => some y4) else (if (decide (p0 = 6)) = true then ((iBoolValue (decide (y1 ≤ 0))) >>= fun (y5 : GValue) => some y5) else (if (decide (p0 = 7)) = true then ((iBoolValue (decide (0 < y1))) >>= fun (y6 : GValue) => some y6) else ((iBoolValue (decide (0 ≤ y1))) >>= fun (y7 : GValue) => some y7)))))
def iFitsOp (p0 : Int) (p1 : GValue) : Option Bool :=
  if (if (decide (p1.kind = 0)) = true then true else (decide (p0 ≤ 8))) = true then (some true) else (if (decide (p0 = 9)) = true then (some (decide (p1.kind = 2))) else (some (decide (p1.kind = 1))))
def iLogic_L0 (p0 : Int) (p1 : GValue) (p2 : GValue) (x15 : Int) : Option (GValue × Int) :=
  if (decide (x15 < (([p1, p2] : List GValue).length : Int))) = true then ((idx ([p1, p2] : List GValue) x15) >>= fun (y1 : GValue) => if (if (!decide (y1.kind = 3)) = true then (!decide (y1.kind = 0)) else false) = true then (some ((GValue.mk 0 0 []), 1)) else (iLogic_L0 p0 p1 p2 (IntKind.wrap .i64 (x15 + 1)))) else ((iBoolValue (decide (p0 = 1))) >>= fun (y2 : GValue) => if (if ((decide (p1.kind = y2.kind)) && ((decide (p1.num = y2.num)) && ((decide (p1.text = y2.text)) && true))) = true then true else ((decide (p2.kind = y2.kind)) && ((decide (p2.num = y2.num)) && ((decide (p2.text = y2.text)) && true)))) = true then (some (y2, 0)) else (if (if (decide (p1.kind = 0)) = true then true else (decide (p2.kind = 0))) = true then (some ((GValue.mk 0 0 []), 0)) else ((iBoolValue (decide (p0 = 2))) >>= fun (y3 : GValue) => some (y3, 0))))
  partial_fixpoint
def iLogic (p0 : Int) (p1 : GValue) (p2 : GValue) : Option (GValue × Int) :=
  iLogic_L0 p0 p1 p2 0
def iTextValue (p0 : (List UInt8)) : Option GValue :=
  some (GValue.mk 2 0 p0)
def iValueOk (p0 : GValue) : Option Bool :=
  if (decide (p0.kind = 0)) = true then (some (if (decide (p0.num = 0)) = true then (decide (p0.text = [])) else false)) else (if (decide (p0.kind = 1)) = true then (some (decide (p0.text = []))) else (if (decide (p0.kind = 2)) = true then (some (if (decide (p0.num = 0)) = true then (decide ((p0.text.length : Int) ≤ 200)) else false)) else (if (decide (p0.kind = 3)) = true then (some (if (if (decide (p0.num = 0)) = true then true else (decide (p0.num = 1))) = true then (decide (p0.text = [])) else false)) else (some false))))
def iCalc (p0 : Int) (p1 : GValue) (p2 : GValue) : Option (GValue × Int) :=
  (if (true && ((if (decide (p0 < 1)) = true then true else (decide (14 < p0))) == false)) = true then iValueOk p1 else some default) >>= fun (y1 : Bool) => (if (true && ((if (if (decide (p0 < 1)) = true then true else (decide (14 < p0))) = true then true else (!y1)) == false)) = true then iValueOk p2 else some default) >>= fun (y2 : Bool) => if (if (if (if (decide (p0 < 1)) = true then true else (decide (14 < p0))) = true then true else (!y1)) = true then true else (!y2)) = true then (some ((GValue.mk 0 0 []), 1)) else (if (decide (p0 ≤ 2)) = true then ((iLogic p0 p1 p2) >>= fun (y3 : GValue × Int) => some (y3.1, y3.2)) else ((iFitsOp p0 p1) >>= fun (y4 : Bool) => (if (true && ((!y4) == false)) = true then iFitsOp p0 p2 else some default) >>= fun (y5 : Bool) => if (if (if (!y4) = true then true else (!y5)) = true then true else (if (if (decide (p0 ≤ 8)) = true then (!(if (decide (p1.kind = 0)) = true then true else (decide (p2.kind = 0)))) else false) = true then (!decide (p1.kind = p2.kind)) else false)) = true then (some ((GValue.mk 0 0 []), 1)) else (if (if (decide (p1.kind = 0)) = true then true else (decide (p2.kind = 0))) = true then (some ((GValue.mk 0 0 []), 0)) else (if (decide (p0 ≤ 8)) = true then ((iCompared p0 p1 p2) >>= fun (y6 : GValue) => some (y6, 0)) else (if (!decide (p0 = 9)) = true then ((iArithmetic p0 p1.num p2.num) >>= fun (y7 : GValue × Int) => some (y7.1, y7.2)) else (if (decide (200 < (IntKind.wrap .i64 ((p1.text.length : Int) + (p2.text.length : Int))))) = true then (some ((GValue.mk 0 0 []), 2)) else ((catS p1.text p2.text) >>= fun (y8 : (List UInt8)) => (iTextValue y8) >>= fun (y9 : GValue) => some (y9, 0))))))))
def iWithin_L0 (p1 : (List GValue)) (p0 : GValue) (x14 : Int) (b6_0 : Int) (b6_1 : Int) (b6_2 : (List UInt8)) : Option (GValue × Int) :=
  if (decide (x14 < (p1.length : Int))) = true then ((idx p1 x14) >>= fun (y2 : GValue) => (iCalc 3 p0 y2) >>= fun (y3 : GValue × Int) => if (!decide (y3.2 = 0)) = true then (some ((GValue.mk 0 0 []), y3.2)) else ((iCalc 1 (GValue.mk b6_0 b6_1 b6_2) y3.1) >>= fun (y4 : GValue × Int) => if (!decide (y4.2 = 0)) = true then (some ((GValue.mk 0 0 []), y4.2)) else (iWithin_L0 p1 p0 (IntKind.wrap .i64 (x14 + 1)) y4.1.kind y4.1.num y4.1.text))) else (some ((GValue.mk b6_0 b6_1 b6_2), 0))
  partial_fixpoint
def iWithin (p0 : GValue) (p1 : (List GValue)) : Option (GValue × Int) :=
  (iBoolValue false) >>= fun (y1 : GValue) => iWithin_L0 p1 p0 0 y1.kind y1.num y1.text
def sBoolValue (p0 : Bool) : Option GValue :=
  if p0 = true then (some (GValue.mk 3 1 [])) else (some (GValue.mk 3 0 []))
def sAddNum (p0 : Int) (p1 : Int) : Option (Int × Bool) :=
  if (if (if (decide (0 < p1)) = true then (decide ((IntKind.wrap .i64 (9223372036854775807 - p1)) < p0)) else false) = true then true else (if (decide (p1 < 0)) = true then (decide (p0 < (IntKind.wrap .i64 ((-9223372036854775808) - p1)))) else false)) = true then (some (0, false)) else (some ((IntKind.wrap .i64 (p0 + p1)), true))
def sL6Compare (p0 : Int) (p1 : Int) : Option Bool :=
  if (decide (p0 = 3)) = true then (some (decide (p1 = 0))) else (if (decide (p0 = 4)) = true then (some (!decide (p1 = 0))) else (if (decide (p0 = 5)) = true then (some (decide (p1 < 0))) else (if (decide (p0 = 6)) = true then (some (decide (p1 ≤ 0))) else (if (decide (p0 = 7)) = true then (some (decide (0 < p1))) else (some (decide (0 ≤ p1)))))))
def sIntValue (p0 : Int) : Option GValue :=
  some (GValue.mk 1 p0 [])
def sL6Num (p0 : Int) (p1 : Bool) : Option (GValue × Int) :=
  if (!p1) = true then (some ((GValue.mk 0 0 []), 2)) else ((sIntValue p0) >>= fun (y1 : GValue) => some (y1, 0))
def sSubNum (p0 : Int) (p1 : Int) : Option (Int × Bool) :=
  if (if (if (decide (p1 < 0)) = true then (decide ((IntKind.wrap .i64 (9223372036854775807 + p1)) < p0)) else false) = true then true else (if (decide (0 < p1)) = true then (decide (p0 < (IntKind.wrap .i64 ((-9223372036854775808) + p1)))) else false)) = true then (some (0, false)) else (some ((IntKind.wrap .i64 (p0 - p1)), true))
def sL6Divide (p0 : Int) (p1 : Int) (p2 : Int) : Option (GValue × Int) :=
  if (decide (p2 = 0)) = true then (some ((GValue.mk 0 0 []), 3)) else (if (decide (p2 = (-1))) = true then (if (decide (p0 = 14)) = true then ((sIntValue 0) >>= fun (y1 : GValue) => some (y1, 0)) else ((sSubNum 0 p1) >>= fun (y2 : Int × Bool) => (sL6Num y2.1 y2.2) >>= fun (y3 : GValue × Int) => some (y3.1, y3.2))) else (if (decide (p0 = 14)) = true then ((remG p1 p2) >>= fun (y4 : Int) => (sIntValue y4) >>= fun (y5 : GValue) => some (y5, 0)) else ((quoG .i64 p1 p2) >>= fun (y6 : Int) => (sIntValue y6) >>= fun (y7 : GValue) => some (y7, 0))))
def sOrder (p0 : GValue) (p1 : GValue) : Option Int :=
  if (decide (p0.kind < p1.kind)) = true then (some (-1)) else (if (decide (p1.kind < p0.kind)) = true then (some 1) else (if (decide (p0.num < p1.num)) = true then (some (-1)) else (if (decide (p1.num < p0.num)) = true then (some 1) else (if (Op.bytesLess p0.text p1.text) = true then (some (-1)) else (if (!(Op.bytesLess p0.text p1.text || decide (p0.text = p1.text))) = true then (some 1) else (some 0))))))
def sCalc_J0 (p0 : Int) (p1 : GValue) (p2 : GValue) (x112 : Bool) : Option (GValue × Int) :=
  if x112 = true then ((sL6Divide p0 p1.num p2.num) >>= fun (y16 : GValue × Int) => some (y16.1, y16.2)) else ((sOrder p1 p2) >>= fun (y17 : Int) => (sL6Compare p0 y17) >>= fun (y18 : Bool) => (sBoolValue y18) >>= fun (y19 : GValue) => some (y19, 0))
def sL1In (p0 : Int) (p1 : Int) (p2 : Int) : Option Bool :=
  some (if (decide (p1 ≤ p0)) = true then (decide (p0 ≤ p2)) else false)
def sL6Null (p0 : GValue) : Option Bool :=
  some (decide (p0.kind = 0))
def sL6Is (p0 : GValue) (p1 : Int) : Option Bool :=
  (if (true && ((decide (p0.kind = p1)) == false)) = true then sL6Null p0 else some default) >>= fun (y1 : Bool) => some (if (decide (p0.kind = p1)) = true then true else y1)
def sL6Logic (p0 : Int) (p1 : GValue) (p2 : GValue) : Option (GValue × Int) :=
  (sL6Is p1 3) >>= fun (y1 : Bool) => (if (true && ((!y1) == false)) = true then sL6Is p2 3 else some default) >>= fun (y2 : Bool) => if (if (!y1) = true then true else (!y2)) = true then (some ((GValue.mk 0 0 []), 1)) else ((sBoolValue (decide (p0 = 1))) >>= fun (y3 : GValue) => if (if ((decide (p1.kind = y3.kind)) && ((decide (p1.num = y3.num)) && ((decide (p1.text = y3.text)) && true))) = true then true else ((decide (p2.kind = y3.kind)) && ((decide (p2.num = y3.num)) && ((decide (p2.text = y3.text)) && true)))) = true then (some (y3, 0)) else ((sL6Null p1) >>= fun (y4 : Bool) => (if (true && (y4 == false)) = true then sL6Null p2 else some default) >>= fun (y5 : Bool) => if (if y4 = true then true else y5) = true then (some ((GValue.mk 0 0 []), 0)) else ((sBoolValue (decide (p0 = 2))) >>= fun (y6 : GValue) => some (y6, 0))))
def sL6Types (p0 : Int) (p1 : GValue) (p2 : GValue) : Option Bool :=
  if (decide (p0 = 9)) = true then ((sL6Is p1 2) >>= fun (y1 : Bool) => (if (true && (y1 == true)) = true then sL6Is p2 2 else some default) >>= fun (y2 : Bool) => some (if y1 = true then y2 else false)) else (if (decide (10 ≤ p0)) = true then ((sL6Is p1 1) >>= fun (y3 : Bool) => (if (true && (y3 == true)) = true then sL6Is p2 1 else some default) >>= fun (y4 : Bool) => some (if y3 = true then y4 else false)) else ((if (true && ((decide (p1.kind = p2.kind)) == false)) = true then sL6Null p1 else some default) >>= fun (y5 : Bool) => (if (true && ((if (decide (p1.kind = p2.kind)) = true then true else y5) == false)) = true then sL6Null p2 else some default) >>= fun (y6 : Bool) => some (if (if (decide (p1.kind = p2.kind)) = true then true else y5) = true then true else y6)))
def sMulNum (p0 : Int) (p1 : Int) : Option (Int × Bool) :=
  if (if (decide (p0 = 0)) = true then true else (decide (p1 = 0))) = true then (some (0, true)) else (if (if (if (decide (p0 = (-1))) = true then (decide (p1 = (-9223372036854775808))) else false) = true then true else (if (decide (p1 = (-1))) = true then (decide (p0 = (-9223372036854775808))) else false)) = true then (some (0, false)) else ((quoG .i64 (IntKind.wrap .i64 (p0 * p1)) p1) >>= fun (y1 : Int) => if (!decide (y1 = p0)) = true then (some (0, false)) else (some ((IntKind.wrap .i64 (p0 * p1)), true))))
def sTextValue (p0 : (List UInt8)) : Option GValue :=
  some (GValue.mk 2 0 p0)
def sValueOk (p0 : GValue) : Option Bool :=
  if (decide (p0.kind = 0)) = true then (some (if (decide (p0.num = 0)) = true then (decide (p0.text = [])) else false)) else (if (decide (p0.kind = 1)) = true then (some (decide (p0.text = []))) else (if (decide (p0.kind = 2)) = true then (some (if (decide (p0.num = 0)) = true then (decide ((p0.text.length : Int) ≤ 200)) else false)) else (if (decide (p0.kind = 3)) = true then ((sL1In p0.num 0 1) >>= fun (y1 : Bool) => some (if y1 = true then (decide (p0.text = [])) else false)) else (some false))))
def sCalc (p0 : Int) (p1 : GValue) (p2 : GValue) : Option (GValue × Int) :=
  (sL1In p0 1 14) >>= fun (y1 : Bool) => (if (true && ((!y1) == false)) = true then sValueOk p1 else some default) >>= fun (y2 : Bool) => (if (true && ((if (!y1) = true then true else (!y2)) == false)) = true then sValueOk p2 else some default) >>= fun (y3 : Bool) => if (if (if (!y1) = true then true else (!y2)) = true then true else (!y3)) = true then (some ((GValue.mk 0 0 []), 1)) else (if (decide (p0 ≤ 2)) = true then ((sL6Logic p0 p1 p2) >>= fun (y4 : GValue × Int) => some (y4.1, y4.2)) else ((sL6Types p0 p1 p2) >>= fun (y5 : Bool) => if (!y5) = true then (some ((GValue.mk 0 0 []), 1)) else ((sL6Null p1) >>= fun (y6 : Bool) => (if (true && (y6 == false)) = true then sL6Null p2 else some default) >>= fun (y7 : Bool) => if (if y6 = true then true else y7) = true then (some ((GValue.mk 0 0 []), 0)) else (if (decide (p0 = 9)) = true then (if (decide (200 < (IntKind.wrap .i64 ((p1.text.length : Int) + (p2.text.length : Int))))) = true then (some ((GValue.mk 0 0 []), 2)) else ((catS p1.text p2.text) >>= fun (y8 : (List UInt8)) => (sTextValue y8) >>= fun (y9 : GValue) => some (y9, 0))) else (if (decide (p0 = 10)) = true then ((sAddNum p1.num p2.num) >>= fun (y10 : Int × Bool) => (sL6Num y10.1 y10.2) >>= fun (y11 : GValue × Int) => some (y11.1, y11.2)) else (if (decide (p0 = 11)) = true then ((sSubNum p1.num p2.num) >>= fun (y12 : Int × Bool) => (sL6Num y12.1 y12.2) >>= fun (y13 : GValue × Int) => some (y13.1, y13.2)) else (if (decide (p0 = 12)) = true then ((sMulNum p1.num p2.num) >>= fun (y14 : Int × Bool) => (sL6Num y14.1 y14.2) >>= fun (y15 : GValue × Int) => some (y15.1, y15.2)) else (if (decide (p0 = 13)) = true then (sCalc_J0 p0 p1 p2 (decide (p0 = 13))) else (sCalc_J0 p0 p1 p2 (decide (p0 = 14)))))))))))
def sWithin_L0 (p1 : (List GValue)) (p0 : GValue) (x7 : Int) (b6_0 : Int) (b6_1 : Int) (b6_2 : (List UInt8)) : Option (GValue × Int) :=
  if (decide (x7 < (p1.length : Int))) = true then ((idx p1 x7) >>= fun (y2 : GValue) => (sCalc 3 p0 y2) >>= fun (y3 : GValue × Int) => if (!decide (y3.2 = 0)) = true then (some ((GValue.mk 0 0 []), y3.2)) else ((sCalc 1 (GValue.mk b6_0 b6_1 b6_2) y3.1) >>= fun (y4 : GValue × Int) => sWithin_L0 p1 p0 (IntKind.wrap .i64 (x7 + 1)) y4.1.kind y4.1.num y4.1.text)) else (some ((GValue.mk b6_0 b6_1 b6_2), 0))
  partial_fixpoint
def sWithin (p0 : GValue) (p1 : (List GValue)) : Option (GValue × Int) :=
  (sBoolValue false) >>= fun (y1 : GValue) => sWithin_L0 p1 p0 0 y1.kind y1.num y1.text
def wEqValue (p0 : GValue) (p1 : GValue) : Option Bool :=
  if (!decide (p0.kind = p1.kind)) = true then (some false) else (if (!decide (p0.num = p1.num)) = true then (some false) else (if (!decide (p0.text = p1.text)) = true then (some false) else (some true)))
def wEqValueS_L0 (p0 : (List GValue)) (p1 : (List GValue)) (x5 : Int) : Option Bool :=
  if (decide (x5 < (p0.length : Int))) = true then ((idx p0 x5) >>= fun (y1 : GValue) => (idx p1 x5) >>= fun (y2 : GValue) => (wEqValue y1 y2) >>= fun (y3 : Bool) => if (!y3) = true then (some false) else (wEqValueS_L0 p0 p1 (IntKind.wrap .i64 (x5 + 1)))) else (some true)
  partial_fixpoint
def wEqValueS (p0 : (List GValue)) (p1 : (List GValue)) : Option Bool :=
  if (!decide ((p0.length : Int) = (p1.length : Int))) = true then (some false) else (wEqValueS_L0 p0 p1 0)
def wSzValue (p0 : GValue) (p1 : Int) : Option Int :=
  if (decide ((IntKind.wrap .i64 (p1 - (p0.text.length : Int))) < 0)) = true then (some (-1)) else (some (IntKind.wrap .i64 (p1 - (p0.text.length : Int))))
def wSzValueS_L0 (p0 : (List GValue)) (x1 : Int) (x5 : Int) : Option Int :=
  if (decide (x5 < (p0.length : Int))) = true then ((idx p0 x5) >>= fun (y1 : GValue) => (wSzValue y1 x1) >>= fun (y2 : Int) => if (decide (y2 < 0)) = true then (some (-1)) else (wSzValueS_L0 p0 y2 (IntKind.wrap .i64 (x5 + 1)))) else (some x1)
  partial_fixpoint
def wSzValueS (p0 : (List GValue)) (p1 : Int) : Option Int :=
  if (decide ((IntKind.wrap .i64 (p1 - (p0.length : Int))) < 0)) = true then (some (-1)) else (wSzValueS_L0 p0 (IntKind.wrap .i64 (p1 - (p0.length : Int))) 0)
def wToValue (p0 : GValue) : Option GValue :=
  some p0
def wToValueS_L0 (p0 : (List GValue)) (x4 : Int) (b7_0 : (List GValue)) : Option (List GValue) :=
  if (decide (x4 < (p0.length : Int))) = true then ((idx p0 x4) >>= fun (y2 : GValue) => (wToValue y2) >>= fun (y3 : GValue) => (idx b7_0 x4) >>= fun (y4 : GValue) => (setG b7_0 x4 y3) >>= fun (y5 : (List GValue)) => wToValueS_L0 p0 (IntKind.wrap .i64 (x4 + 1)) y5) else (some b7_0)
  partial_fixpoint
def wToValueS (p0 : (List GValue)) : Option (List GValue) :=
  (mkG 32 (p0.length : Int) ((GValue.mk 0 0 []) : GValue)) >>= fun (y1 : (List GValue)) => wToValueS_L0 p0 0 y1
def wFnExactWithin (p0 : GValue) (p1 : (List GValue)) : Option Bool :=
  (wSzValue p0 1048576) >>= fun (y1 : Int) => if (decide (y1 < 0)) = true then (some true) else ((wSzValueS p1 y1) >>= fun (y2 : Int) => if (decide (y2 < 0)) = true then (some true) else ((wToValue p0) >>= fun (y3 : GValue) => (wToValueS p1) >>= fun (y4 : (List GValue)) => (sWithin y3 y4) >>= fun (y5 : GValue × Int) => (wToValueS p1) >>= fun (y6 : (List GValue)) => (wToValue p0) >>= fun (y7 : GValue) => (iWithin y7 y6) >>= fun (y8 : GValue × Int) => (wEqValue y8.1 y5.1) >>= fun (y9 : Bool) => if (if (!y9) = true then true else (!decide (y8.2 = y5.2))) = true then (some false) else ((wToValueS p1) >>= fun (y10 : (List GValue)) => (wEqValueS y6 y10) >>= fun (y11 : Bool) => if (!y11) = true then (some false) else (some true))))
end Go.Ab
