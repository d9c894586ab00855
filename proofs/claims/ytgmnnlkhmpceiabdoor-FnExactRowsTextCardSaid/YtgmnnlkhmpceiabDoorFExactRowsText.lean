/- The functions of the program, as Lean functions (printed by a program). -/
import Derived.Test.YtgmnnlkhmpceiabDoorAbF1
namespace Go.Ab
open Go
structure GValue where
  kind : Int
  num : Int
  text : (List UInt8)
instance : Inhabited GValue := ⟨(GValue.mk 0 0 [])⟩
def okGValue (x : GValue) : Prop := okI x.kind ∧ okI x.num ∧ okS x.text
def gStrings_Builder_String_x (c0_1 : (List Int)) : Option ((List UInt8) × (List Int)) :=
  (ofBytes c0_1) >>= fun (y : List UInt8) => some (y, c0_1)
def gStrings_Builder_copyCheck_x (c0_1 : (List Int)) : Option Unit :=
  some ()
def gStrings_Builder_WriteString_x (c0_1 : (List Int)) (p1 : (List UInt8)) : Option (Int × (List Int)) :=
  (gStrings_Builder_copyCheck_x c0_1) >>= fun (y1 : Unit) => (appG 1 c0_1 (toBytes p1)) >>= fun (y2 : List Int) => some ((p1.length : Int), y2)
def gStrconv_Itoa (p0 : Int) : Option (List UInt8) :=
  some (Lib.itoa p0)
def iDigits (p0 : Int) : Option (List UInt8) :=
  (gStrconv_Itoa p0) >>= fun (y1 : (List UInt8)) => some y1
def gStrings_ReplaceAll (p0 : (List UInt8)) (p1 : (List UInt8)) (p2 : (List UInt8)) : Option (List UInt8) :=
  replG p0 p1 p2
def iQuoted (p0 : (List UInt8)) (p1 : (List UInt8)) : Option (List UInt8) :=
  (catS p1 p1) >>= fun (y1 : (List UInt8)) => (gStrings_ReplaceAll p0 p1 y1) >>= fun (y2 : (List UInt8)) => (catS p1 y2) >>= fun (y3 : (List UInt8)) => (catS y3 p1) >>= fun (y4 : (List UInt8)) => some y4
def iQuoteText (p0 : (List UInt8)) : Option (List UInt8) :=
  (iQuoted p0 [39]) >>= fun (y1 : (List UInt8)) => some y1
def iValueOk (p0 : GValue) : Option Bool :=
  if (decide (p0.kind = 0)) = true then ((some (if (decide (p0.num = 0)) = true then (decide (p0.text = [])) else false)) >>= fun (y1 : Bool) => some y1) else (if (decide (p0.kind = 1)) = true then (some (decide (p0.text = []))) else (if (decide (p0.kind = 2)) = true then ((some (if (decide (p0.num = 0)) = true then (decide ((p0.text.length : Int) ≤ 200)) else false)) >>= fun (y2 : Bool) => some y2) else (if (decide (p0.kind = 3)) = true then ((some (if (decide (p0.num = 0)) = true then true else (decide (p0.num = 1)))) >>= fun (y3 : Bool) => (some (if y3 = true then (decide (p0.text = [])) else false)) >>= fun (y4 : Bool) => some y4) else (some false))))
def iValueText (p0 : GValue) : Option (List UInt8) :=
  (iValueOk p0) >>= fun (y1 : Bool) => if (!y1) = true then (some [63]) else (if (decide (p0.kind = 1)) = true then ((iDigits p0.num) >>= fun (y2 : (List UInt8)) => some y2) else (if (decide (p0.kind = 2)) = true then ((iQuoteText p0.text) >>= fun (y3 : (List UInt8)) => some y3) else (if (decide (p0.kind = 3)) = true then (if (decide (p0.num = 1)) = true then (some [84, 82, 85, 69]) else (some [70, 65, 76, 83, 69])) else (some [78, 85, 76, 76]))))
mutual
def iRowsText_J2 (p0 : (List (List GValue))) (x11 : Int) (y1 : (List GValue)) (x17 : Int) (y4 : GValue) (b3_1_6 : (List Int)) : Option (List UInt8) :=
  (iValueText y4) >>= fun (y8 : (List UInt8)) => (gStrings_Builder_WriteString_x b3_1_6 y8) >>= fun (y9 : Int × (List Int)) => iRowsText_L1 p0 x11 y1 (IntKind.wrap .i64 (x17 + 1)) y9.2
  partial_fixpoint
def iRowsText_L1 (p0 : (List (List GValue))) (x11 : Int) (y1 : (List GValue)) (x17 : Int) (b3_1_2 : (List Int)) : Option (List UInt8) :=
  if (decide (x17 < (y1.length : Int))) = true then ((idx y1 x17) >>= fun (y4 : GValue) => if (decide (0 < x17)) = true then ((gStrings_Builder_WriteString_x b3_1_2 [124]) >>= fun (y5 : Int × (List Int)) => iRowsText_J2 p0 x11 y1 x17 y4 y5.2) else (iRowsText_J2 p0 x11 y1 x17 y4 b3_1_2)) else ((gStrings_Builder_WriteString_x b3_1_2 [10]) >>= fun (y7 : Int × (List Int)) => iRowsText_L0 p0 (IntKind.wrap .i64 (x11 + 1)) y7.2)
  partial_fixpoint
def iRowsText_L0 (p0 : (List (List GValue))) (x11 : Int) (b3_1 : (List Int)) : Option (List UInt8) :=
  if (decide (x11 < (p0.length : Int))) = true then ((idx p0 x11) >>= fun (y1 : (List GValue)) => iRowsText_L1 p0 x11 y1 0 b3_1) else ((gStrings_Builder_String_x b3_1) >>= fun (y3 : (List UInt8) × (List Int)) => some y3.1)
  partial_fixpoint
end
def iRowsText (p0 : (List (List GValue))) : Option (List UInt8) :=
  iRowsText_L0 p0 0 ([] : List Int)
mutual
def sDigits_J1 (x0 : Int) (p0 : Int) (x4 : (List UInt8)) (x5 : Int) : Option (List UInt8) :=
  (ofBytes ([(IntKind.wrap .u8 (IntKind.wrap .i64 (48 + x5)))] : List Int)) >>= fun (y2 : (List UInt8)) => (catS y2 x4) >>= fun (y3 : (List UInt8)) => sDigits_L0 p0 (IntKind.wrap .i64 (Int.tdiv x0 10)) y3
  partial_fixpoint
def sDigits_L0 (p0 : Int) (x0 : Int) (x4 : (List UInt8)) : Option (List UInt8) :=
  if (!decide (x0 = 0)) = true then (if (decide ((Int.tmod x0 10) < 0)) = true then (sDigits_J1 x0 p0 x4 (IntKind.wrap .i64 (0 - (Int.tmod x0 10)))) else (sDigits_J1 x0 p0 x4 (Int.tmod x0 10))) else (if (decide (p0 < 0)) = true then ((catS [45] x4) >>= fun (y1 : (List UInt8)) => some y1) else (some x4))
  partial_fixpoint
end
def sDigits (p0 : Int) : Option (List UInt8) :=
  if (decide (p0 = 0)) = true then (some [48]) else (sDigits_L0 p0 p0 [])
mutual
def sL2Quote_J1 (p0 : (List UInt8)) (p1 : Int) (x6 : Int) (x5_3 : (List Int)) : Option (List UInt8) :=
  (idxS p0 x6) >>= fun (y6 : Int) => (appG 1 x5_3 ([y6] : List Int)) >>= fun (y7 : List Int) => sL2Quote_L0 p0 p1 y7 (IntKind.wrap .i64 (x6 + 1))
  partial_fixpoint
def sL2Quote_L0 (p0 : (List UInt8)) (p1 : Int) (x5 : (List Int)) (x6 : Int) : Option (List UInt8) :=
  if (decide (x6 < (p0.length : Int))) = true then ((idxS p0 x6) >>= fun (y1 : Int) => if (decide (y1 = p1)) = true then ((appG 1 x5 ([p1] : List Int)) >>= fun (y2 : List Int) => sL2Quote_J1 p0 p1 x6 y2) else (sL2Quote_J1 p0 p1 x6 x5)) else ((appG 1 x5 ([p1] : List Int)) >>= fun (y4 : List Int) => (ofBytes y4) >>= fun (y5 : (List UInt8)) => some y5)
  partial_fixpoint
end
def sL2Quote (p0 : (List UInt8)) (p1 : Int) : Option (List UInt8) :=
  sL2Quote_L0 p0 p1 ([p1] : List Int) 0
def sQuoteText (p0 : (List UInt8)) : Option (List UInt8) :=
  (sL2Quote p0 39) >>= fun (y1 : (List UInt8)) => some y1
def sL1In (p0 : Int) (p1 : Int) (p2 : Int) : Option Bool :=
  (some (if (decide (p1 ≤ p0)) = true then (decide (p0 ≤ p2)) else false)) >>= fun (y1 : Bool) => some y1
def sValueOk (p0 : GValue) : Option Bool :=
  if (decide (p0.kind = 0)) = true then ((some (if (decide (p0.num = 0)) = true then (decide (p0.text = [])) else false)) >>= fun (y1 : Bool) => some y1) else (if (decide (p0.kind = 1)) = true then (some (decide (p0.text = []))) else (if (decide (p0.kind = 2)) = true then ((some (if (decide (p0.num = 0)) = true then (decide ((p0.text.length : Int) ≤ 200)) else false)) >>= fun (y2 : Bool) => some y2) else (if (decide (p0.kind = 3)) = true then ((sL1In p0.num 0 1) >>= fun (y3 : Bool) => (some (if y3 = true then (decide (p0.text = [])) else false)) >>= fun (y4 : Bool) => some y4) else (some false))))
def sValueText (p0 : GValue) : Option (List UInt8) :=
  (sValueOk p0) >>= fun (y1 : Bool) => if (!y1) = true then (some [63]) else (if (decide (p0.kind = 1)) = true then ((sDigits p0.num) >>= fun (y2 : (List UInt8)) => some y2) else (if (decide (p0.kind = 2)) = true then ((sQuoteText p0.text) >>= fun (y3 : (List UInt8)) => some y3) else (if (decide (p0.kind = 3)) = true then (if (decide (p0.num = 1)) = true then (some [84, 82, 85, 69]) else (some [70, 65, 76, 83, 69])) else (some [78, 85, 76, 76]))))
mutual
def sRowsText_J2 (p0 : (List (List GValue))) (x4 : Int) (x5 : Int) (x3_5 : (List Int)) : Option (List UInt8) :=
  (idx p0 x4) >>= fun (y7 : (List GValue)) => (idx y7 x5) >>= fun (y8 : GValue) => (sValueText y8) >>= fun (y9 : (List UInt8)) => (appG 1 x3_5 (toBytes y9)) >>= fun (y10 : List Int) => sRowsText_L1 p0 x4 y10 (IntKind.wrap .i64 (x5 + 1))
  partial_fixpoint
def sRowsText_L1 (p0 : (List (List GValue))) (x4 : Int) (x3_1 : (List Int)) (x5 : Int) : Option (List UInt8) :=
  (idx p0 x4) >>= fun (y3 : (List GValue)) => if (decide (x5 < (y3.length : Int))) = true then (if (decide (0 < x5)) = true then ((appG 1 x3_1 ([124] : List Int)) >>= fun (y4 : List Int) => sRowsText_J2 p0 x4 x5 y4) else (sRowsText_J2 p0 x4 x5 x3_1)) else ((appG 1 x3_1 ([10] : List Int)) >>= fun (y6 : List Int) => sRowsText_L0 p0 y6 (IntKind.wrap .i64 (x4 + 1)))
  partial_fixpoint
def sRowsText_L0 (p0 : (List (List GValue))) (x3 : (List Int)) (x4 : Int) : Option (List UInt8) :=
  if (decide (x4 < (p0.length : Int))) = true then (sRowsText_L1 p0 x4 x3 0) else ((ofBytes x3) >>= fun (y2 : (List UInt8)) => some y2)
  partial_fixpoint
end
def sRowsText (p0 : (List (List GValue))) : Option (List UInt8) :=
  sRowsText_L0 p0 ([] : List Int) 0
def wEqValue (p0 : GValue) (p1 : GValue) : Option Bool :=
  if (!decide (p0.kind = p1.kind)) = true then (some false) else (if (!decide (p0.num = p1.num)) = true then (some false) else (if (!decide (p0.text = p1.text)) = true then (some false) else (some true)))
def wEqValueS_L0 (p0 : (List GValue)) (p1 : (List GValue)) (x5 : Int) : Option Bool :=
  if (decide (x5 < (p0.length : Int))) = true then ((idx p0 x5) >>= fun (y1 : GValue) => (idx p1 x5) >>= fun (y2 : GValue) => (wEqValue y1 y2) >>= fun (y3 : Bool) => if (!y3) = true then (some false) else (wEqValueS_L0 p0 p1 (IntKind.wrap .i64 (x5 + 1)))) else (some true)
  partial_fixpoint
def wEqValueS (p0 : (List GValue)) (p1 : (List GValue)) : Option Bool :=
  if (!decide ((p0.length : Int) = (p1.length : Int))) = true then (some false) else (wEqValueS_L0 p0 p1 0)
def wEqValueSS_L0 (p0 : (List (List GValue))) (p1 : (List (List GValue))) (x5 : Int) : Option Bool :=
  if (decide (x5 < (p0.length : Int))) = true then ((idx p0 x5) >>= fun (y1 : (List GValue)) => (idx p1 x5) >>= fun (y2 : (List GValue)) => (wEqValueS y1 y2) >>= fun (y3 : Bool) => if (!y3) = true then (some false) else (wEqValueSS_L0 p0 p1 (IntKind.wrap .i64 (x5 + 1)))) else (some true)
  partial_fixpoint
def wEqValueSS (p0 : (List (List GValue))) (p1 : (List (List GValue))) : Option Bool :=
  if (!decide ((p0.length : Int) = (p1.length : Int))) = true then (some false) else (wEqValueSS_L0 p0 p1 0)
def wSzValue (p0 : GValue) (p1 : Int) : Option Int :=
  if (decide ((IntKind.wrap .i64 (p1 - (p0.text.length : Int))) < 0)) = true then (some (-1)) else (some (IntKind.wrap .i64 (p1 - (p0.text.length : Int))))
def wSzValueS_L0 (p0 : (List GValue)) (x1 : Int) (x5 : Int) : Option Int :=
  if (decide (x5 < (p0.length : Int))) = true then ((idx p0 x5) >>= fun (y1 : GValue) => (wSzValue y1 x1) >>= fun (y2 : Int) => if (decide (y2 < 0)) = true then (some (-1)) else (wSzValueS_L0 p0 y2 (IntKind.wrap .i64 (x5 + 1)))) else (some x1)
  partial_fixpoint
def wSzValueS (p0 : (List GValue)) (p1 : Int) : Option Int :=
  if (decide ((IntKind.wrap .i64 (p1 - (p0.length : Int))) < 0)) = true then (some (-1)) else (wSzValueS_L0 p0 (IntKind.wrap .i64 (p1 - (p0.length : Int))) 0)
def wSzValueSS_L0 (p0 : (List (List GValue))) (x1 : Int) (x5 : Int) : Option Int :=
  if (decide (x5 < (p0.length : Int))) = true then ((idx p0 x5) >>= fun (y1 : (List GValue)) => (wSzValueS y1 x1) >>= fun (y2 : Int) => if (decide (y2 < 0)) = true then (some (-1)) else (wSzValueSS_L0 p0 y2 (IntKind.wrap .i64 (x5 + 1)))) else (some x1)
  partial_fixpoint
def wSzValueSS (p0 : (List (List GValue))) (p1 : Int) : Option Int :=
  if (decide ((IntKind.wrap .i64 (p1 - (p0.length : Int))) < 0)) = true then (some (-1)) else (wSzValueSS_L0 p0 (IntKind.wrap .i64 (p1 - (p0.length : Int))) 0)
def wToValue (p0 : GValue) : Option GValue :=
  some p0
def wToValueS_L0 (p0 : (List GValue)) (x4 : Int) (b7_0 : (List GValue)) : Option (List GValue) :=
  if (decide (x4 < (p0.length : Int))) = true then ((idx p0 x4) >>= fun (y2 : GValue) => (wToValue y2) >>= fun (y3 : GValue) => (idx b7_0 x4) >>= fun (y4 : GValue) => (setG b7_0 x4 y3) >>= fun (y5 : (List GValue)) => wToValueS_L0 p0 (IntKind.wrap .i64 (x4 + 1)) y5) else (some b7_0)
  partial_fixpoint
def wToValueS (p0 : (List GValue)) : Option (List GValue) :=
  (mkG 32 (p0.length : Int) ((GValue.mk 0 0 []) : GValue)) >>= fun (y1 : (List GValue)) => wToValueS_L0 p0 0 y1
def wToValueSS_L0 (p0 : (List (List GValue))) (x4 : Int) (b7_0 : (List (List GValue))) : Option (List (List GValue)) :=
  if (decide (x4 < (p0.length : Int))) = true then ((idx p0 x4) >>= fun (y2 : (List GValue)) => (wToValueS y2) >>= fun (y3 : (List GValue)) => (idx b7_0 x4) >>= fun (y4 : (List GValue)) => (setG b7_0 x4 y3) >>= fun (y5 : (List (List GValue))) => wToValueSS_L0 p0 (IntKind.wrap .i64 (x4 + 1)) y5) else (some b7_0)
  partial_fixpoint
def wToValueSS (p0 : (List (List GValue))) : Option (List (List GValue)) :=
  (mkG 24 (p0.length : Int) (([] : List GValue) : (List GValue))) >>= fun (y1 : (List (List GValue))) => wToValueSS_L0 p0 0 y1
def wFnExactRowsText (p0 : (List (List GValue))) : Option Bool :=
  (wSzValueSS p0 1048576) >>= fun (y1 : Int) => if (decide (y1 < 0)) = true then (some true) else ((wToValueSS p0) >>= fun (y2 : (List (List GValue))) => (sRowsText y2) >>= fun (y3 : (List UInt8)) => (wToValueSS p0) >>= fun (y4 : (List (List GValue))) => (iRowsText y4) >>= fun (y5 : (List UInt8)) => if (!decide (y5 = y3)) = true then (some false) else ((wToValueSS p0) >>= fun (y6 : (List (List GValue))) => (wEqValueSS y4 y6) >>= fun (y7 : Bool) => if (!y7) = true then (some false) else (some true)))
end Go.Ab
