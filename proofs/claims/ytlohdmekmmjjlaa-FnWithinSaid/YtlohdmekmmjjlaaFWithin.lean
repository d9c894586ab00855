/- The functions of the program, as Lean functions (printed by a program). -/
import Derived.Test.YtlohdmekmmjjlaaAbF0
namespace Go.Ab
open Go
structure GValue where
  kind : Int
  num : Int
  text : (List UInt8)
instance : Inhabited GValue := ⟨(GValue.mk 0 0 [])⟩
structure GL1Cur where
  b : (List Int)
  i : Int
  h : Int
instance : Inhabited GL1Cur := ⟨(GL1Cur.mk [] 0 0)⟩
def okGValue (x : GValue) : Prop := okI x.kind ∧ okI x.num ∧ okS x.text
def okGL1Cur (x : GL1Cur) : Prop := (okL okU8) x.b ∧ okI x.i ∧ okI x.h
def iBoolValue_J0 (b3_1 : Int) : Option GValue :=
  some (GValue.mk 3 b3_1 [])
def iBoolValue (p0 : Bool) : Option GValue :=
  if p0 = true then (iBoolValue_J0 1) else (iBoolValue_J0 0)
def iAddNum (p0 : Int) (p1 : Int) : Option (Int × Bool) :=
  if (if (if (decide (0 < p1)) = true then (decide ((IntKind.wrap .i64 (9223372036854775807 - p1)) < p0)) else false) = true then true else (if (decide (p1 < 0)) = true then (decide (p0 < (IntKind.wrap .i64 ((-9223372036854775808) - p1)))) else false)) = true then (some (0, false)) else (some ((IntKind.wrap .i64 (p0 + p1)), true))
def iIntValue (p0 : Int) : Option GValue :=
  some (GValue.mk 1 p0 [])
def iArithmetic_J0 (x8 : Int) (x9 : Bool) : Option (GValue × Int) :=
  if (!x9) = true then (some ((GValue.mk 0 0 []), 2)) else ((iIntValue x8) >>= fun (y5 : GValue) => some (y5, 0))
def iDivided (p0 : Int) (p1 : Int) (p2 : Int) : Option (GValue × Int) :=
  if (decide (p2 = 0)) = true then (some ((GValue.mk 0 0 []), 3)) else (if (decide (p0 = 14)) = true then ((remG p1 p2) >>= fun (y1 : Int) => (iIntValue y1) >>= fun (y2 : GValue) => some (y2, 0)) else (if (if (decide (p1 = (-9223372036854775808))) = true then (decide (p2 = (-1))) else false) = true then (some ((GValue.mk 0 0 []), 2)) else ((quoG .i64 p1 p2) >>= fun (y3 : Int) => (iIntValue y3) >>= fun (y4 : GValue) => some (y4, 0))))
def iMulNum (p0 : Int) (p1 : Int) : Option (Int × Bool) :=
  (if (true && ((!decide (p0 = 0)) == true)) = true then quoG .i64 (IntKind.wrap .i64 (p0 * p1)) p0 else some default) >>= fun (y1 : Int) => if (if (!decide (p0 = 0)) = true then (if (!decide (y1 = p1)) = true then true else (if (decide (p0 = (-1))) = true then (decide (p1 = (-9223372036854775808))) else false)) else false) = true then (some (0, false)) else (some ((IntKind.wrap .i64 (p0 * p1)), true))
def iSubNum (p0 : Int) (p1 : Int) : Option (Int × Bool) :=
  if (if (if (decide (p1 < 0)) = true then (decide ((IntKind.wrap .i64 (9223372036854775807 + p1)) < p0)) else false) = true then true else (if (decide (0 < p1)) = true then (decide (p0 < (IntKind.wrap .i64 ((-9223372036854775808) + p1)))) else false)) = true then (some (0, false)) else (some ((IntKind.wrap .i64 (p0 - p1)), true))
def iArithmetic (p0 : Int) (p1 : Int) (p2 : Int) : Option (GValue × Int) :=
  if (decide (p0 = 10)) = true then ((iAddNum p1 p2) >>= fun (y1 : Int × Bool) => iArithmetic_J0 y1.1 y1.2) else (if (decide (p0 = 11)) = true then ((iSubNum p1 p2) >>= fun (y2 : Int × Bool) => iArithmetic_J0 y2.1 y2.2) else (if (decide (p0 = 12)) = true then ((iMulNum p1 p2) >>= fun (y3 : Int × Bool) => iArithmetic_J0 y3.1 y3.2) else ((iDivided p0 p1 p2) >>= fun (y4 : GValue × Int) => some (y4.1, y4.2))))
def gCmp_isNaN_int (p0 : Int) : Option Bool :=
  some (!decide (p0 = p0))
def gCmp_Compare_int (p0 : Int) (p1 : Int) : Option Int :=
  (gCmp_isNaN_int p0) >>= fun (y1 : Bool) => (gCmp_isNaN_int p1) >>= fun (y2 : Bool) => if y1 = true then (if y2 = true then (some 0) else (some (-1))) else (if y2 = true then (some 1) else (if (decide (p0 < p1)) = true then (some (-1)) else (if (decide (p1 < p0)) = true then (some 1) else (some 0))))
def gCmp_isNaN_string (p0 : (List UInt8)) : Option Bool :=
  some (!decide (p0 = p0))
def gCmp_Compare_string (p0 : (List UInt8)) (p1 : (List UInt8)) : Option Int :=
  (gCmp_isNaN_string p0) >>= fun (y1 : Bool) => (gCmp_isNaN_string p1) >>= fun (y2 : Bool) => if y1 = true then (if y2 = true then (some 0) else (some (-1))) else (if y2 = true then (some 1) else (if (Op.bytesLess p0 p1) = true then (some (-1)) else (if (!(Op.bytesLess p0 p1 || decide (p0 = p1))) = true then (some 1) else (some 0))))
def gCmp_Or_int_L0 (p0 : (List Int)) (x8 : Int) : Option Int :=
  if (decide (x8 < (p0.length : Int))) = true then ((idx p0 x8) >>= fun (y1 : Int) => if (!decide (y1 = 0)) = true then (some y1) else (gCmp_Or_int_L0 p0 (IntKind.wrap .i64 (x8 + 1)))) else (some 0)
  partial_fixpoint
def gCmp_Or_int (p0 : (List Int)) : Option Int :=
  gCmp_Or_int_L0 p0 0
def iOrder (p0 : GValue) (p1 : GValue) : Option Int :=
  (gCmp_Compare_int p0.kind p1.kind) >>= fun (y1 : Int) => (gCmp_Compare_int p0.num p1.num) >>= fun (y2 : Int) => (gCmp_Compare_string p0.text p1.text) >>= fun (y3 : Int) => (gCmp_Or_int ([y1, y2, y3] : List Int)) >>= fun (y4 : Int) => some y4
def iCompared (p0 : Int) (p1 : GValue) (p2 : GValue) : Option GValue :=
  (iOrder p1 p2) >>= fun (y1 : Int) => if (decide (p0 = 3)) = true then ((iBoolValue (decide (y1 = 0))) >>= fun (y2 : GValue) => some y2) else (if (decide (p0 = 4)) = true then ((iBoolValue (!decide (y1 = 0))) >>= fun (y3 : GValue) => some y3) else (if (decide (p0 = 5)) = true then ((iBoolValue (decide (y1 < 0))) >>= fun (y4 : GValue) => some y4) else (if (decide (p0 = 6)) = true then ((iBoolValue (decide (y1 ≤ 0))) >>= fun (y5 : GValue) => some y5) else (if (decide (p0 = 7)) = true then ((iBoolValue (decide (0 < y1))) >>= fun (y6 : GValue) => some y6) else ((iBoolValue (decide (0 ≤ y1))) >>= fun (y7 : GValue) => some y7)))))
def iFitsOp (p0 : Int) (p1 : GValue) : Option Bool :=
  if (if (decide (p1.kind = 0)) = true then true else (decide (p0 ≤ 8))) = true then (some true) else (if (decide (p0 = 9)) = true then (some (decide (p1.kind = 2))) else (some (decide (p1.kind = 1))))
def iLogic_L0 (p0 : Int) (p1 : GValue) (p2 : GValue) (x15 : Int) : Option (GValue × Int) :=
  if (decide (x15 < (([p1, p2] : List GValue).length : Int))) = true then ((idx ([p1, p2] : List GValue) x15) >>= fun (y1 : GValue) => if (if (!decide (y1.kind = 3)) = true then (!decide (y1.kind = 0)) else false) = true then (some ((GValue.mk 0 0 []), 1)) else (iLogic_L0 p0 p1 p2 (IntKind.wrap .i64 (x15 + 1)))) else ((iBoolValue (decide (p0 = 1))) >>= fun (y2 : GValue) => if (if ((decide (p1.kind = y2.kind)) && ((decide (p1.num = y2.num)) && ((decide (p1.text = y2.text)) && true))) = true then true else ((decide (p2.kind = y2.kind)) && ((decide (p2.num = y2.num)) && ((decide (p2.text = y2.text)) && true)))) = true then (some (y2, 0)) else (if (if (decide (p1.kind = 0)) = true then true else (decide (p2.kind = 0))) = true then (some ((GValue.mk 0 0 []), 0)) else ((iBoolValue (decide (p0 = 2))) >>= fun (y3 : GValue) => some (y3, 0))))
  partial_fixpoint
def iLogic (p0 : Int) (p1 : GValue) (p2 : GValue) : Option (GValue × Int) :=
  iLogic_L0 p0 p1 p2 0
def iTextValue (p0 : (List UInt8)) : Option GValue :=
  some (GValue.mk 2 0 p0)
def iValueOk (p0 : GValue) : Option Bool :=
  if (decide (p0.kind = 0)) = true then (some (if (decide (p0.num = 0)) = true then (decide (p0.text = [])) else false)) else (if (decide (p0.kind = 1)) = true then (some (decide (p0.text = []))) else (if (decide (p0.kind = 2)) = true then (some (if (decide (p0.num = 0)) = true then (decide ((p0.text.length : Int) ≤ 200)) else false)) else (if (decide (p0.kind = 3)) = true then (some (if (if (decide (p0.num = 0)) = true then true else (decide (p0.num = 1))) = true then (decide (p0.text = [])) else false)) else (some false))))
def iCalc (p0 : Int) (p1 : GValue) (p2 : GValue) : Option (GValue × Int) :=
  (if (true && ((if (decide (p0 < 1)) = true then true else (decide (14 < p0))) == false)) = true then iValueOk p1 else some default) >>= fun (y1 : Bool) => (if (true && ((if (if (decide (p0 < 1)) = true then true else (decide (14 < p0))) = true then true else (!y1)) == false)) = true then iValueOk p2 else some default) >>= fun (y2 : Bool) => if (if (if (if (decide (p0 < 1)) = true then true else (decide (14 < p0))) = true then true else (!y1)) = true then true else (!y2)) = true then (some ((GValue.mk 0 0 []), 1)) else (if (decide (p0 ≤ 2)) = true then ((iLogic p0 p1 p2) >>= fun (y3 : GValue × Int) => some (y3.1, y3.2)) else ((iFitsOp p0 p1) >>= fun (y4 : Bool) => (if (true && ((!y4) == false)) = true then iFitsOp p0 p2 else some default) >>= fun (y5 : Bool) => if (if (if (!y4) = true then true else (!y5)) = true then true else (if (if (decide (p0 ≤ 8)) = true then (!(if (decide (p1.kind = 0)) = true then true else (decide (p2.kind = 0)))) else false) = true then (!decide (p1.kind = p2.kind)) else false)) = true then (some ((GValue.mk 0 0 []), 1)) else (if (if (decide (p1.kind = 0)) = true then true else (decide (p2.kind = 0))) = true then (some ((GValue.mk 0 0 []), 0)) else (if (decide (p0 ≤ 8)) = true then ((iCompared p0 p1 p2) >>= fun (y6 : GValue) => some (y6, 0)) else (if (!decide (p0 = 9)) = true then ((iArithmetic p0 p1.num p2.num) >>= fun (y7 : GValue × Int) => some (y7.1, y7.2)) else (if (decide (200 < (IntKind.wrap .i64 ((p1.text.length : Int) + (p2.text.length : Int))))) = true then (some ((GValue.mk 0 0 []), 2)) else ((catS p1.text p2.text) >>= fun (y8 : (List UInt8)) => (iTextValue y8) >>= fun (y9 : GValue) => some (y9, 0))))))))
def iWithin_L0 (p1 : (List GValue)) (p0 : GValue) (x14 : Int) (b6_0 : Int) (b6_1 : Int) (b6_2 : (List UInt8)) : Option (GValue × Int) :=
  if (decide (x14 < (p1.length : Int))) = true then ((idx p1 x14) >>= fun (y2 : GValue) => (iCalc 3 p0 y2) >>= fun (y3 : GValue × Int) => if (!decide (y3.2 = 0)) = true then (some ((GValue.mk 0 0 []), y3.2)) else ((iCalc 1 (GValue.mk b6_0 b6_1 b6_2) y3.1) >>= fun (y4 : GValue × Int) => if (!decide (y4.2 = 0)) = true then (some ((GValue.mk 0 0 []), y4.2)) else (iWithin_L0 p1 p0 (IntKind.wrap .i64 (x14 + 1)) y4.1.kind y4.1.num y4.1.text))) else (some ((GValue.mk b6_0 b6_1 b6_2), 0))
  partial_fixpoint
def iWithin (p0 : GValue) (p1 : (List GValue)) : Option (GValue × Int) :=
  (iBoolValue false) >>= fun (y1 : GValue) => iWithin_L0 p1 p0 0 y1.kind y1.num y1.text
def sIntValue (p0 : Int) : Option GValue :=
  some (GValue.mk 1 p0 [])
def sL1Byte_J0 (p0 : GL1Cur) (x3 : Int) (b1000000_1 : Int) : Option (Int × GL1Cur) :=
  some (x3, (GL1Cur.mk p0.b b1000000_1 (IntKind.wrap .i64 ((IntKind.wrap .i64 (p0.h * 6364136223846793005)) + 1442695040888963407))))
def sL1Byte (p0 : GL1Cur) : Option (Int × GL1Cur) :=
  if (decide (p0.i < (p0.b.length : Int))) = true then ((idx p0.b p0.i) >>= fun (y1 : Int) => sL1Byte_J0 p0 (IntKind.wrap .i64 ((BitVec.ofInt (IntKind.bits .i64) (IntKind.wrap .i64 ((IntKind.wrap .i64 ((BitVec.ofInt (IntKind.bits .i64) (IntKind.wrap .i64 ((BitVec.ofInt (IntKind.bits .i64) (Int.fdiv (IntKind.wrap .i64 ((IntKind.wrap .i64 (p0.h * 6364136223846793005)) + 1442695040888963407)) (2 ^ 33)) ^^^ BitVec.ofInt (IntKind.bits .i64) (Int.fdiv (IntKind.wrap .i64 ((IntKind.wrap .i64 (p0.h * 6364136223846793005)) + 1442695040888963407)) (2 ^ 45))).toNat : Int)) &&& BitVec.ofInt (IntKind.bits .i64) 255).toNat : Int)) + (IntKind.wrap .i64 y1))) &&& BitVec.ofInt (IntKind.bits .i64) 255).toNat : Int)) (IntKind.wrap .i64 (p0.i + 1))) else (sL1Byte_J0 p0 (IntKind.wrap .i64 ((BitVec.ofInt (IntKind.bits .i64) (IntKind.wrap .i64 ((BitVec.ofInt (IntKind.bits .i64) (Int.fdiv (IntKind.wrap .i64 ((IntKind.wrap .i64 (p0.h * 6364136223846793005)) + 1442695040888963407)) (2 ^ 33)) ^^^ BitVec.ofInt (IntKind.bits .i64) (Int.fdiv (IntKind.wrap .i64 ((IntKind.wrap .i64 (p0.h * 6364136223846793005)) + 1442695040888963407)) (2 ^ 45))).toNat : Int)) &&& BitVec.ofInt (IntKind.bits .i64) 255).toNat : Int)) p0.i)
def sL1Below (p0 : GL1Cur) (p1 : Int) : Option (Int × GL1Cur) :=
  if (decide (p1 ≤ 0)) = true then (some (0, p0)) else (if (decide (p1 ≤ 256)) = true then ((sL1Byte p0) >>= fun (y1 : Int × GL1Cur) => (remG y1.1 p1) >>= fun (y2 : Int) => some (y2, y1.2)) else ((sL1Byte p0) >>= fun (y3 : Int × GL1Cur) => (sL1Byte y3.2) >>= fun (y4 : Int × GL1Cur) => (sL1Byte y4.2) >>= fun (y5 : Int × GL1Cur) => (sL1Byte y5.2) >>= fun (y6 : Int × GL1Cur) => (remG (IntKind.wrap .i64 ((IntKind.wrap .i64 ((IntKind.wrap .i64 ((IntKind.wrap .i64 (y3.1 * 16777216)) + (IntKind.wrap .i64 (y4.1 * 65536)))) + (IntKind.wrap .i64 (y5.1 * 256)))) + y6.1)) p1) >>= fun (y7 : Int) => some (y7, y6.2)))
def sL1Once (p0 : GL1Cur) (p1 : Int) : Option (Bool × GL1Cur) :=
  (sL1Below p0 p1) >>= fun (y1 : Int × GL1Cur) => some ((decide (y1.1 = 0)), y1.2)
def sBoolValue (p0 : Bool) : Option GValue :=
  if p0 = true then (some (GValue.mk 3 1 [])) else (some (GValue.mk 3 0 []))
def sL1Pick (p0 : GL1Cur) (p1 : (List (List UInt8))) : Option ((List UInt8) × GL1Cur) :=
  (sL1Below p0 (p1.length : Int)) >>= fun (y1 : Int × GL1Cur) => (idx p1 y1.1) >>= fun (y2 : (List UInt8)) => some (y2, y1.2)
def sL1PickInt (p0 : GL1Cur) (p1 : (List Int)) : Option (Int × GL1Cur) :=
  (sL1Below p0 (p1.length : Int)) >>= fun (y1 : Int × GL1Cur) => (idx p1 y1.1) >>= fun (y2 : Int) => some (y2, y1.2)
def sL1Whole (p0 : GL1Cur) : Option (Int × GL1Cur) :=
  (sL1Below p0 3) >>= fun (y1 : Int × GL1Cur) => if (decide (y1.1 = 0)) = true then ((sL1PickInt y1.2 ([0, 1, (-1), 63, 64, (-64), (-65), 127, 128, 16383, 16384, 9223372036854775807, (-9223372036854775808), 4611686018427387904] : List Int)) >>= fun (y2 : Int × GL1Cur) => some (y2.1, y2.2)) else (if (decide (y1.1 = 1)) = true then ((sL1Below y1.2 1000000) >>= fun (y3 : Int × GL1Cur) => some ((IntKind.wrap .i64 (y3.1 - 500000)), y3.2)) else ((sL1Below y1.2 20) >>= fun (y4 : Int × GL1Cur) => some (y4.1, y4.2)))
def sTextValue (p0 : (List UInt8)) : Option GValue :=
  some (GValue.mk 2 0 p0)
def sL6Typed (p0 : GL1Cur) (p1 : Int) : Option (GValue × GL1Cur) :=
  (sL1Once p0 6) >>= fun (y1 : Bool × GL1Cur) => if y1.1 = true then (some ((GValue.mk 0 0 []), y1.2)) else (if (decide (p1 = 2)) = true then ((sL1Pick y1.2 ([[], [97], [98], [97, 98]] : List (List UInt8))) >>= fun (y2 : (List UInt8) × GL1Cur) => (sTextValue y2.1) >>= fun (y3 : GValue) => some (y3, y2.2)) else (if (decide (p1 = 3)) = true then ((sL1Once y1.2 2) >>= fun (y4 : Bool × GL1Cur) => (sBoolValue y4.1) >>= fun (y5 : GValue) => some (y5, y4.2)) else ((sL1Whole y1.2) >>= fun (y6 : Int × GL1Cur) => (sIntValue y6.1) >>= fun (y7 : GValue) => some (y7, y6.2))))
def sL26Value (p0 : GL1Cur) (p1 : Int) : Option (GValue × GL1Cur) :=
  (if (true && ((decide (p1 = 1)) == true)) = true then sL1Once p0 12 else some ((default : Bool), p0)) >>= fun (y1 : Bool × GL1Cur) => if (if (decide (p1 = 1)) = true then (!y1.1) else false) = true then ((sL1Below y1.2 5) >>= fun (y2 : Int × GL1Cur) => (sIntValue (IntKind.wrap .i64 (y2.1 - 1))) >>= fun (y3 : GValue) => some (y3, y2.2)) else ((sL6Typed y1.2 p1) >>= fun (y4 : GValue × GL1Cur) => some (y4.1, y4.2))
def sDrawWithin_J1 (y2 : Int × GL1Cur) (x6_9 : (List GValue)) (b10_0_10 : (List Int)) (b10_1_11 : Int) (b10_2_12 : Int) : Option (GValue × (List GValue)) :=
  (sL26Value (GL1Cur.mk b10_0_10 b10_1_11 b10_2_12) (IntKind.wrap .i64 (1 + y2.1))) >>= fun (y13 : GValue × GL1Cur) => some (y13.1, x6_9)
def sL5Bent_J0 (b3_0 : Int) (b3_1 : Int) (b3_2 : (List UInt8)) (b1000000_0 : (List Int)) (b1000000_1 : Int) (b1000000_2 : Int) : Option (GValue × GL1Cur) :=
  some ((GValue.mk b3_0 b3_1 b3_2), (GL1Cur.mk b1000000_0 b1000000_1 b1000000_2))
def sL5Bent_L1 (y1 : GValue × GL1Cur) (b3_2_6 : (List UInt8)) (b1000000_0_7 : (List Int)) (b1000000_1_8 : Int) (b1000000_2_9 : Int) : Option (GValue × GL1Cur) :=
  (sL1Once (GL1Cur.mk b1000000_0_7 b1000000_1_8 b1000000_2_9) 2) >>= fun (y10 : Bool × GL1Cur) => if (if y10.1 = true then (decide ((b3_2_6.length : Int) < 400)) else false) = true then ((catS b3_2_6 b3_2_6) >>= fun (y11 : (List UInt8)) => (catS y11 [48, 49, 50, 51, 52, 53, 54, 55, 56, 57]) >>= fun (y12 : (List UInt8)) => sL5Bent_L1 y1 y12 y10.2.b y10.2.i y10.2.h) else (sL5Bent_J0 y1.1.kind y1.1.num b3_2_6 y10.2.b y10.2.i y10.2.h)
  partial_fixpoint
def sL5Right (p0 : GL1Cur) : Option (GValue × GL1Cur) :=
  (sL1Below p0 6) >>= fun (y1 : Int × GL1Cur) => if (decide (y1.1 = 0)) = true then (some ((GValue.mk 0 0 []), y1.2)) else (if (decide (y1.1 = 1)) = true then ((sL1Pick y1.2 ([[], [97], [98], [105, 116, 39, 115], [97, 98], [255]] : List (List UInt8))) >>= fun (y2 : (List UInt8) × GL1Cur) => (sTextValue y2.1) >>= fun (y3 : GValue) => some (y3, y2.2)) else (if (decide (y1.1 = 2)) = true then ((sL1Once y1.2 2) >>= fun (y4 : Bool × GL1Cur) => (sBoolValue y4.1) >>= fun (y5 : GValue) => some (y5, y4.2)) else (if (decide (y1.1 = 3)) = true then ((sL1Whole y1.2) >>= fun (y6 : Int × GL1Cur) => (sIntValue y6.1) >>= fun (y7 : GValue) => some (y7, y6.2)) else ((sL1Below y1.2 7) >>= fun (y8 : Int × GL1Cur) => (sIntValue (IntKind.wrap .i64 (y8.1 - 2))) >>= fun (y9 : GValue) => some (y9, y8.2)))))
def sL5Bent (p0 : GL1Cur) : Option (GValue × GL1Cur) :=
  (sL5Right p0) >>= fun (y1 : GValue × GL1Cur) => (sL1Below y1.2 14) >>= fun (y2 : Int × GL1Cur) => if (decide (y2.1 = 0)) = true then ((sL1Below y2.2 6) >>= fun (y3 : Int × GL1Cur) => sL5Bent_J0 (IntKind.wrap .i64 (y3.1 - 1)) y1.1.num y1.1.text y3.2.b y3.2.i y3.2.h) else (if (decide (y2.1 = 1)) = true then ((sL1Whole y2.2) >>= fun (y4 : Int × GL1Cur) => sL5Bent_J0 y1.1.kind y4.1 y1.1.text y4.2.b y4.2.i y4.2.h) else (if (decide (y2.1 = 2)) = true then ((sL1Pick y2.2 ([[120], [], [108, 111, 110, 103]] : List (List UInt8))) >>= fun (y5 : (List UInt8) × GL1Cur) => sL5Bent_L1 y1 y5.1 y5.2.b y5.2.i y5.2.h) else (sL5Bent_J0 y1.1.kind y1.1.num y1.1.text y2.2.b y2.2.i y2.2.h)))
def sDrawWithin_L0 (y2 : Int × GL1Cur) (y3 : Int × GL1Cur) (x6 : (List GValue)) (x8 : Int) (b10_0 : (List Int)) (b10_1 : Int) (b10_2 : Int) : Option (GValue × (List GValue)) :=
  if (decide (x8 < y3.1)) = true then ((sL26Value (GL1Cur.mk b10_0 b10_1 b10_2) (IntKind.wrap .i64 (1 + y2.1))) >>= fun (y4 : GValue × GL1Cur) => (appG 32 x6 ([y4.1] : List GValue)) >>= fun (y5 : List GValue) => sDrawWithin_L0 y2 y3 y5 (IntKind.wrap .i64 (x8 + 1)) y4.2.b y4.2.i y4.2.h) else ((sL1Once (GL1Cur.mk b10_0 b10_1 b10_2) 6) >>= fun (y6 : Bool × GL1Cur) => if y6.1 = true then ((sL5Bent y6.2) >>= fun (y7 : GValue × GL1Cur) => (appG 32 x6 ([y7.1] : List GValue)) >>= fun (y8 : List GValue) => sDrawWithin_J1 y2 y8 y7.2.b y7.2.i y7.2.h) else (sDrawWithin_J1 y2 x6 y6.2.b y6.2.i y6.2.h))
  partial_fixpoint
def sL1New_L0 (p0 : (List Int)) (x3 : Int) (x4 : Int) : Option GL1Cur :=
  if (if (decide (x4 < (p0.length : Int))) = true then (decide (x4 < 4000)) else false) = true then ((idx p0 x4) >>= fun (y1 : Int) => sL1New_L0 p0 (IntKind.wrap .i64 ((BitVec.ofInt (IntKind.bits .i64) (IntKind.wrap .i64 ((IntKind.wrap .i64 ((IntKind.wrap .i64 (x3 * 131)) + (IntKind.wrap .i64 y1))) + 7)) &&& BitVec.ofInt (IntKind.bits .i64) 1073741823).toNat : Int)) (IntKind.wrap .i64 (x4 + 1))) else (some (GL1Cur.mk p0 0 x3))
  partial_fixpoint
def sL1New (p0 : (List Int)) : Option GL1Cur :=
  sL1New_L0 p0 (IntKind.wrap .i64 (28322 + (p0.length : Int))) 0
def sDrawWithin (p0 : (List Int)) : Option (GValue × (List GValue)) :=
  (sL1New p0) >>= fun (y1 : GL1Cur) => (sL1Below y1 3) >>= fun (y2 : Int × GL1Cur) => (sL1Below y2.2 5) >>= fun (y3 : Int × GL1Cur) => sDrawWithin_L0 y2 y3 ([] : List GValue) 0 y3.2.b y3.2.i y3.2.h
def sAddNum (p0 : Int) (p1 : Int) : Option (Int × Bool) :=
  if (if (if (decide (0 < p1)) = true then (decide ((IntKind.wrap .i64 (9223372036854775807 - p1)) < p0)) else false) = true then true else (if (decide (p1 < 0)) = true then (decide (p0 < (IntKind.wrap .i64 ((-9223372036854775808) - p1)))) else false)) = true then (some (0, false)) else (some ((IntKind.wrap .i64 (p0 + p1)), true))
def sL6Compare (p0 : Int) (p1 : Int) : Option Bool :=
  if (decide (p0 = 3)) = true then (some (decide (p1 = 0))) else (if (decide (p0 = 4)) = true then (some (!decide (p1 = 0))) else (if (decide (p0 = 5)) = true then (some (decide (p1 < 0))) else (if (decide (p0 = 6)) = true then (some (decide (p1 ≤ 0))) else (if (decide (p0 = 7)) = true then (some (decide (0 < p1))) else (some (decide (0 ≤ p1)))))))
def sL6Num (p0 : Int) (p1 : Bool) : Option (GValue × Int) :=
  if (!p1) = true then (some ((GValue.mk 0 0 []), 2)) else ((sIntValue p0) >>= fun (y1 : GValue) => some (y1, 0))
def sSubNum (p0 : Int) (p1 : Int) : Option (Int × Bool) :=
  if (if (if (decide (p1 < 0)) = true then (decide ((IntKind.wrap .i64 (9223372036854775807 + p1)) < p0)) else false) = true then true else (if (decide (0 < p1)) = true then (decide (p0 < (IntKind.wrap .i64 ((-9223372036854775808) + p1)))) else false)) = true then (some (0, false)) else (some ((IntKind.wrap .i64 (p0 - p1)), true))
def sL6Divide (p0 : Int) (p1 : Int) (p2 : Int) : Option (GValue × Int) :=
  if (decide (p2 = 0)) = true then (some ((GValue.mk 0 0 []), 3)) else (if (decide (p2 = (-1))) = true then (if (decide (p0 = 14)) = true then ((sIntValue 0) >>= fun (y1 : GValue) => some (y1, 0)) else ((sSubNum 0 p1) >>= fun (y2 : Int × Bool) => (sL6Num y2.1 y2.2) >>= fun (y3 : GValue × Int) => some (y3.1, y3.2))) else (if (decide (p0 = 14)) = true then ((remG p1 p2) >>= fun (y4 : Int) => (sIntValue y4) >>= fun (y5 : GValue) => some (y5, 0)) else ((quoG .i64 p1 p2) >>= fun (y6 : Int) => (sIntValue y6) >>= fun (y7 : GValue) => some (y7, 0))))
def sOrder (p0 : GValue) (p1 : GValue) : Option Int :=
  if (decide (p0.kind < p1.kind)) = true then (some (-1)) else (if (decide (p1.kind < p0.kind)) = true then (some 1) else (if (decide (p0.num < p1.num)) = true then (some (-1)) else (if (decide (p1.num < p0.num)) = true then (some 1) else (if (Op.bytesLess p0.text p1.text) = true then (some (-1)) else (if (!(Op.bytesLess p0.text p1.text || decide (p0.text = p1.text))) = true then (some 1) else (some 0))))))
def sCalc_J0 (p0 : Int) (p1 : GValue) (p2 : GValue) (x112 : Bool) : Option (GValue × Int) :=
  if x112 = true then ((sL6Divide p0 p1.num p2.num) >>= fun (y16 : GValue × Int) => some (y16.1, y16.2)) else ((sOrder p1 p2) >>= fun (y17 : Int) => (sL6Compare p0 y17) >>= fun (y18 : Bool) => (sBoolValue y18) >>= fun (y19 : GValue) => some (y19, 0))
def sL1In (p0 : Int) (p1 : Int) (p2 : Int) : Option Bool :=
  some (if (decide (p1 ≤ p0)) = true then (decide (p0 ≤ p2)) else false)
def sL6Null (p0 : GValue) : Option Bool :=
  some (decide (p0.kind = 0))
def sL6Is (p0 : GValue) (p1 : Int) : Option Bool :=
  (if (true && ((decide (p0.kind = p1)) == false)) = true then sL6Null p0 else some default) >>= fun (y1 : Bool) => some (if (decide (p0.kind = p1)) = true then true else y1)
def sL6Logic (p0 : Int) (p1 : GValue) (p2 : GValue) : Option (GValue × Int) :=
  (sL6Is p1 3) >>= fun (y1 : Bool) => (if (true && ((!y1) == false)) = true then sL6Is p2 3 else some default) >>= fun (y2 : Bool) => if (if (!y1) = true then true else (!y2)) = true then (some ((GValue.mk 0 0 []), 1)) else ((sBoolValue (decide (p0 = 1))) >>= fun (y3 : GValue) => if (if ((decide (p1.kind = y3.kind)) && ((decide (p1.num = y3.num)) && ((decide (p1.text = y3.text)) && true))) = true then true else ((decide (p2.kind = y3.kind)) && ((decide (p2.num = y3.num)) && ((decide (p2.text = y3.text)) && true)))) = true then (some (y3, 0)) else ((sL6Null p1) >>= fun (y4 : Bool) => (if (true && (y4 == false)) = true then sL6Null p2 else some default) >>= fun (y5 : Bool) => if (if y4 = true then true else y5) = true then (some ((GValue.mk 0 0 []), 0)) else ((sBoolValue (decide (p0 = 2))) >>= fun (y6 : GValue) => some (y6, 0))))
def sL6Types (p0 : Int) (p1 : GValue) (p2 : GValue) : Option Bool :=
  if (decide (p0 = 9)) = true then ((sL6Is p1 2) >>= fun (y1 : Bool) => (if (true && (y1 == true)) = true then sL6Is p2 2 else some default) >>= fun (y2 : Bool) => some (if y1 = true then y2 else false)) else (if (decide (10 ≤ p0)) = true then ((sL6Is p1 1) >>= fun (y3 : Bool) => (if (true && (y3 == true)) = true then sL6Is p2 1 else some default) >>= fun (y4 : Bool) => some (if y3 = true then y4 else false)) else ((if (true && ((decide (p1.kind = p2.kind)) == false)) = true then sL6Null p1 else some default) >>= fun (y5 : Bool) => (if (true && ((if (decide (p1.kind = p2.kind)) = true then true else y5) == false)) = true then sL6Null p2 else some default) >>= fun (y6 : Bool) => some (if (if (decide (p1.kind = p2.kind)) = true then true else y5) = true then true else y6)))
def sMulNum (p0 : Int) (p1 : Int) : Option (Int × Bool) :=
  if (if (decide (p0 = 0)) = true then true else (decide (p1 = 0))) = true then (some (0, true)) else (if (if (if (decide (p0 = (-1))) = true then (decide (p1 = (-9223372036854775808))) else false) = true then true else (if (decide (p1 = (-1))) = true then (decide (p0 = (-9223372036854775808))) else false)) = true then (some (0, false)) else ((quoG .i64 (IntKind.wrap .i64 (p0 * p1)) p1) >>= fun (y1 : Int) => if (!decide (y1 = p0)) = true then (some (0, false)) else (some ((IntKind.wrap .i64 (p0 * p1)), true))))
def sValueOk (p0 : GValue) : Option Bool :=
  if (decide (p0.kind = 0)) = true then (some (if (decide (p0.num = 0)) = true then (decide (p0.text = [])) else false)) else (if (decide (p0.kind = 1)) = true then (some (decide (p0.text = []))) else (if (decide (p0.kind = 2)) = true then (some (if (decide (p0.num = 0)) = true then (decide ((p0.text.length : Int) ≤ 200)) else false)) else (if (decide (p0.kind = 3)) = true then ((sL1In p0.num 0 1) >>= fun (y1 : Bool) => some (if y1 = true then (decide (p0.text = [])) else false)) else (some false))))
def sCalc (p0 : Int) (p1 : GValue) (p2 : GValue) : Option (GValue × Int) :=
  (sL1In p0 1 14) >>= fun (y1 : Bool) => (if (true && ((!y1) == false)) = true then sValueOk p1 else some default) >>= fun (y2 : Bool) => (if (true && ((if (!y1) = true then true else (!y2)) == false)) = true then sValueOk p2 else some default) >>= fun (y3 : Bool) => if (if (if (!y1) = true then true else (!y2)) = true then true else (!y3)) = true then (some ((GValue.mk 0 0 []), 1)) else (if (decide (p0 ≤ 2)) = true then ((sL6Logic p0 p1 p2) >>= fun (y4 : GValue × Int) => some (y4.1, y4.2)) else ((sL6Types p0 p1 p2) >>= fun (y5 : Bool) => if (!y5) = true then (some ((GValue.mk 0 0 []), 1)) else ((sL6Null p1) >>= fun (y6 : Bool) => (if (true && (y6 == false)) = true then sL6Null p2 else some default) >>= fun (y7 : Bool) => if (if y6 = true then true else y7) = true then (some ((GValue.mk 0 0 []), 0)) else (if (decide (p0 = 9)) = true then (if (decide (200 < (IntKind.wrap .i64 ((p1.text.length : Int) + (p2.text.length : Int))))) = true then (some ((GValue.mk 0 0 []), 2)) else ((catS p1.text p2.text) >>= fun (y8 : (List UInt8)) => (sTextValue y8) >>= fun (y9 : GValue) => some (y9, 0))) else (if (decide (p0 = 10)) = true then ((sAddNum p1.num p2.num) >>= fun (y10 : Int × Bool) => (sL6Num y10.1 y10.2) >>= fun (y11 : GValue × Int) => some (y11.1, y11.2)) else (if (decide (p0 = 11)) = true then ((sSubNum p1.num p2.num) >>= fun (y12 : Int × Bool) => (sL6Num y12.1 y12.2) >>= fun (y13 : GValue × Int) => some (y13.1, y13.2)) else (if (decide (p0 = 12)) = true then ((sMulNum p1.num p2.num) >>= fun (y14 : Int × Bool) => (sL6Num y14.1 y14.2) >>= fun (y15 : GValue × Int) => some (y15.1, y15.2)) else (if (decide (p0 = 13)) = true then (sCalc_J0 p0 p1 p2 (decide (p0 = 13))) else (sCalc_J0 p0 p1 p2 (decide (p0 = 14)))))))))))
def sWithin_L0 (p1 : (List GValue)) (p0 : GValue) (x7 : Int) (b6_0 : Int) (b6_1 : Int) (b6_2 : (List UInt8)) : Option (GValue × Int) :=
  if (decide (x7 < (p1.length : Int))) = true then ((idx p1 x7) >>= fun (y2 : GValue) => (sCalc 3 p0 y2) >>= fun (y3 : GValue × Int) => if (!decide (y3.2 = 0)) = true then (some ((GValue.mk 0 0 []), y3.2)) else ((sCalc 1 (GValue.mk b6_0 b6_1 b6_2) y3.1) >>= fun (y4 : GValue × Int) => sWithin_L0 p1 p0 (IntKind.wrap .i64 (x7 + 1)) y4.1.kind y4.1.num y4.1.text)) else (some ((GValue.mk b6_0 b6_1 b6_2), 0))
  partial_fixpoint
def sWithin (p0 : GValue) (p1 : (List GValue)) : Option (GValue × Int) :=
  (sBoolValue false) >>= fun (y1 : GValue) => sWithin_L0 p1 p0 0 y1.kind y1.num y1.text
def wBig (p0 : (List Int)) : Option Bool :=
  some (decide (1048576 < (p0.length : Int)))
def wFnWithin_L0 (y2 : GValue × (List GValue)) (y3 : GValue × Int) (x9 : Bool) (x10 : Bool) (x11 : Int) : Option Bool :=
  if (decide (x11 < (y2.2.length : Int))) = true then ((if (true && (x10 == false)) = true then idx y2.2 x11 else some default) >>= fun (y5 : GValue) => (if (true && (x9 == false)) = true then idx y2.2 x11 else some default) >>= fun (y6 : GValue) => wFnWithin_L0 y2 y3 (if x9 = true then true else (if ((decide (y6.kind = y2.1.kind)) && ((decide (y6.num = y2.1.num)) && ((decide (y6.text = y2.1.text)) && true))) = true then (!decide (y2.1.kind = 0)) else false)) (if (if x10 = true then true else (decide (y5.kind = 0))) = true then true else (decide (y2.1.kind = 0))) (IntKind.wrap .i64 (x11 + 1))) else ((if (true && (x9 == true)) = true then sBoolValue true else some default) >>= fun (y7 : GValue) => (if ((true && ((if (if x9 = true then ((decide (y3.1.kind = y7.kind)) && ((decide (y3.1.num = y7.num)) && ((decide (y3.1.text = y7.text)) && true))) else false) = true then true else (if (if (!x9) = true then x10 else false) = true then ((decide (y3.1.kind = 0)) && ((decide (y3.1.num = 0)) && ((decide (y3.1.text = [])) && true))) else false)) == false)) && ((if (!x9) = true then (!x10) else false) == true)) = true then sBoolValue false else some default) >>= fun (y8 : GValue) => some (if (if (if x9 = true then ((decide (y3.1.kind = y7.kind)) && ((decide (y3.1.num = y7.num)) && ((decide (y3.1.text = y7.text)) && true))) else false) = true then true else (if (if (!x9) = true then x10 else false) = true then ((decide (y3.1.kind = 0)) && ((decide (y3.1.num = 0)) && ((decide (y3.1.text = [])) && true))) else false)) = true then true else (if (if (!x9) = true then (!x10) else false) = true then ((decide (y3.1.kind = y8.kind)) && ((decide (y3.1.num = y8.num)) && ((decide (y3.1.text = y8.text)) && true))) else false)))
  partial_fixpoint
def wFnWithin (p0 : (List Int)) : Option Bool :=
  (wBig p0) >>= fun (y1 : Bool) => if y1 = true then (some true) else ((sDrawWithin p0) >>= fun (y2 : GValue × (List GValue)) => (iWithin y2.1 y2.2) >>= fun (y3 : GValue × Int) => (sWithin y2.1 y2.2) >>= fun (y4 : GValue × Int) => if (!decide (y3.2 = y4.2)) = true then (some false) else (if (!decide (y3.2 = 0)) = true then (some ((decide (y3.1.kind = 0)) && ((decide (y3.1.num = 0)) && ((decide (y3.1.text = [])) && true)))) else (wFnWithin_L0 y2 y3 false false 0)))
end Go.Ab
