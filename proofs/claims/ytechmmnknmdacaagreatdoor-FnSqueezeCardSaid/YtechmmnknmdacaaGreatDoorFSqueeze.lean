/- The functions of the program, as Lean functions (printed by a program). -/
import Derived.Test.YtechmmnknmdacaaGreatDoorAbF1
namespace Go.Ab
open Go
structure GL1Cur where
  b : (List Int)
  i : Int
  h : Int
instance : Inhabited GL1Cur := ⟨(GL1Cur.mk [] 0 0)⟩
structure GToken where
  kind : Int
  text : (List UInt8)
  at_ : Int
instance : Inhabited GToken := ⟨(GToken.mk 0 [] 0)⟩
def okGL1Cur (x : GL1Cur) : Prop := (okL okU8) x.b ∧ okI x.i ∧ okI x.h
def okGToken (x : GToken) : Prop := okI x.kind ∧ okS x.text ∧ okI x.at_
def iIsDigit (p0 : Int) : Option Bool :=
  (some (if (decide (48 ≤ p0)) = true then (decide (p0 ≤ 57)) else false)) >>= fun (y1 : Bool) => some y1
def iIsStart (p0 : Int) : Option Bool :=
  (some (if (decide (97 ≤ p0)) = true then (decide (p0 ≤ 122)) else false)) >>= fun (y1 : Bool) => (if (true && (y1 == false)) = true then some (if (decide (65 ≤ p0)) = true then (decide (p0 ≤ 90)) else false) else some default) >>= fun (y2 : Bool) => (some (if y1 = true then true else y2)) >>= fun (y3 : Bool) => (some (if y3 = true then true else (decide (p0 = 95)))) >>= fun (y4 : Bool) => some y4
def iIsPart (p0 : Int) : Option Bool :=
  (iIsStart p0) >>= fun (y1 : Bool) => (if (true && (y1 == false)) = true then iIsDigit p0 else some default) >>= fun (y2 : Bool) => (some (if y1 = true then true else y2)) >>= fun (y3 : Bool) => some y3
mutual
def iReadQuoted_J1 (p0 : (List UInt8)) (y1 : Int) (x8 : (List Int)) (x9_6 : Int) : Option ((List UInt8) × Int × Bool) :=
  (idxS p0 x9_6) >>= fun (y7 : Int) => (appG 1 x8 ([y7] : List Int)) >>= fun (y8 : List Int) => iReadQuoted_L0 p0 y1 y8 (IntKind.wrap .i64 (x9_6 + 1))
  partial_fixpoint
def iReadQuoted_L0 (p0 : (List UInt8)) (y1 : Int) (x8 : (List Int)) (x9 : Int) : Option ((List UInt8) × Int × Bool) :=
  if (decide (x9 < (p0.length : Int))) = true then ((idxS p0 x9) >>= fun (y2 : Int) => if (decide (y2 = y1)) = true then ((if (true && ((decide ((IntKind.wrap .i64 (x9 + 1)) = (p0.length : Int))) == false)) = true then idxS p0 (IntKind.wrap .i64 (x9 + 1)) else some default) >>= fun (y3 : Int) => (some (if (decide ((IntKind.wrap .i64 (x9 + 1)) = (p0.length : Int))) = true then true else (!decide (y3 = y1)))) >>= fun (y4 : Bool) => if y4 = true then ((ofBytes x8) >>= fun (y5 : (List UInt8)) => some (y5, (IntKind.wrap .i64 (x9 + 1)), true)) else (iReadQuoted_J1 p0 y1 x8 (IntKind.wrap .i64 (x9 + 1)))) else (iReadQuoted_J1 p0 y1 x8 x9)) else (some ([], 0, false))
  partial_fixpoint
end
def iReadQuoted (p0 : (List UInt8)) (p1 : Int) : Option ((List UInt8) × Int × Bool) :=
  (idxS p0 p1) >>= fun (y1 : Int) => iReadQuoted_L0 p0 y1 ([] : List Int) (IntKind.wrap .i64 (p1 + 1))
def iFold_J2 (x3 : (List Int)) : Option (List UInt8) :=
  (ofBytes x3) >>= fun (y3 : (List UInt8)) => some y3
mutual
def iFold_J1 (p0 : (List UInt8)) (x10 : Int) (b60050000_0 : (List Int)) : Option (List UInt8) :=
  iFold_L0 p0 (IntKind.wrap .i64 (x10 + 1)) b60050000_0
  partial_fixpoint
def iFold_L0 (p0 : (List UInt8)) (x10 : Int) (b60015000_0 : (List Int)) : Option (List UInt8) :=
  if (decide (x10 < ((toBytes p0).length : Int))) = true then ((idx b60015000_0 x10) >>= fun (y1 : Int) => (some (if (decide (97 ≤ y1)) = true then (decide (y1 ≤ 122)) else false)) >>= fun (y2 : Bool) => if y2 = true then (iFold_J1 p0 x10 (b60015000_0.set (x10).toNat (IntKind.wrap .u8 ((IntKind.wrap .u8 (y1 - 97)) + 65)))) else (iFold_J1 p0 x10 (b60015000_0.set (x10).toNat y1))) else (iFold_J2 b60015000_0)
  partial_fixpoint
end
def iFold (p0 : (List UInt8)) : Option (List UInt8) :=
  iFold_L0 p0 0 (toBytes p0)
def gSlices_Index_Sstring_string_L0 (p0 : (List (List UInt8))) (p1 : (List UInt8)) (x8 : Int) : Option Int :=
  if (decide (x8 < (p0.length : Int))) = true then ((idx p0 x8) >>= fun (y1 : (List UInt8)) => if (decide (p1 = y1)) = true then (some x8) else (gSlices_Index_Sstring_string_L0 p0 p1 (IntKind.wrap .i64 (x8 + 1)))) else (some (-1))
  partial_fixpoint
def gSlices_Index_Sstring_string (p0 : (List (List UInt8))) (p1 : (List UInt8)) : Option Int :=
  gSlices_Index_Sstring_string_L0 p0 p1 0
def gStrings_Split (p0 : (List UInt8)) (p1 : (List UInt8)) : Option (List (List UInt8)) :=
  splitG p0 p1
def iKeywords : Option (List (List UInt8)) :=
  (gStrings_Split [83, 69, 76, 69, 67, 84, 32, 68, 73, 83, 84, 73, 78, 67, 84, 32, 70, 82, 79, 77, 32, 74, 79, 73, 78, 32, 79, 78, 32, 87, 72, 69, 82, 69, 32, 79, 82, 68, 69, 82, 32, 66, 89, 32, 65, 83, 67, 32, 68, 69, 83, 67, 32, 76, 73, 77, 73, 84, 32, 65, 83, 32, 65, 78, 68, 32, 79, 82, 32, 78, 79, 84, 32, 73, 83, 32, 73, 78, 32, 66, 69, 84, 87, 69, 69, 78, 32, 69, 88, 73, 83, 84, 83, 32, 78, 85, 76, 76, 32, 84, 82, 85, 69, 32, 70, 65, 76, 83, 69, 32, 73, 78, 83, 69, 82, 84, 32, 73, 78, 84, 79, 32, 86, 65, 76, 85, 69, 83, 32, 85, 80, 68, 65, 84, 69, 32, 83, 69, 84, 32, 68, 69, 76, 69, 84, 69] [32]) >>= fun (y1 : (List (List UInt8))) => some y1
def iKeyOf (p0 : (List UInt8)) : Option Int :=
  (iKeywords) >>= fun (y1 : (List (List UInt8))) => (iFold p0) >>= fun (y2 : (List UInt8)) => (gSlices_Index_Sstring_string y1 y2) >>= fun (y3 : Int) => some (IntKind.wrap .i64 (y3 + 1))
def iNameOk (p0 : (List UInt8)) : Option Bool :=
  (some (if (decide (1 ≤ (p0.length : Int))) = true then (decide ((p0.length : Int) ≤ 20)) else false)) >>= fun (y1 : Bool) => some y1
def iNumber (p0 : (List UInt8)) : Option (Int × Bool) :=
  numO p0
def gSlices_Contains_Sstring_string (p0 : (List (List UInt8))) (p1 : (List UInt8)) : Option Bool :=
  (gSlices_Index_Sstring_string p0 p1) >>= fun (y1 : Int) => some (decide (0 ≤ y1))
def iSigns : Option (List (List UInt8)) :=
  some ([[40], [41], [44], [46], [42], [43], [45], [47], [37], [61], [60, 62], [60], [60, 61], [62], [62, 61], [124, 124]] : List (List UInt8))
def iSignOk (p0 : (List UInt8)) : Option Bool :=
  (iSigns) >>= fun (y1 : (List (List UInt8))) => (gSlices_Contains_Sstring_string y1 p0) >>= fun (y2 : Bool) => some y2
def iTokenOk (p0 : GToken) : Option Bool :=
  if (decide (p0.kind = 1)) = true then ((iKeyOf p0.text) >>= fun (y1 : Int) => (if (true && ((!decide (y1 = 0)) == true)) = true then iFold p0.text else some default) >>= fun (y2 : (List UInt8)) => (some (if (!decide (y1 = 0)) = true then (decide (y2 = p0.text)) else false)) >>= fun (y3 : Bool) => some y3) else (if (decide (p0.kind = 2)) = true then ((iNameOk p0.text) >>= fun (y4 : Bool) => some y4) else (if (decide (p0.kind = 3)) = true then ((iNumber p0.text) >>= fun (y5 : Int × Bool) => some y5.2) else (if (decide (p0.kind = 4)) = true then (some (decide ((p0.text.length : Int) ≤ 40))) else (if (decide (p0.kind = 5)) = true then ((iSignOk p0.text) >>= fun (y6 : Bool) => some y6) else (some false)))))
def iReadToken_J1 (p1 : Int) (x8_5 : Int) (b7_0 : Int) (b7_1 : (List UInt8)) : Option (GToken × Int × Bool) :=
  (iTokenOk (GToken.mk b7_0 b7_1 p1)) >>= fun (y15 : Bool) => some ((GToken.mk b7_0 b7_1 p1), x8_5, y15)
def iReadToken_L0 (p0 : (List UInt8)) (p1 : Int) (y1 : Int) (x8 : Int) : Option (GToken × Int × Bool) :=
  (if (true && ((decide (x8 < (p0.length : Int))) == true)) = true then idxS p0 x8 else some default) >>= fun (y8 : Int) => (if (true && ((decide (x8 < (p0.length : Int))) == true)) = true then iIsPart y8 else some default) >>= fun (y9 : Bool) => (some (if (decide (x8 < (p0.length : Int))) = true then y9 else false)) >>= fun (y10 : Bool) => if y10 = true then (iReadToken_L0 p0 p1 y1 (IntKind.wrap .i64 (x8 + 1))) else ((subl p0 p1 x8) >>= fun (y11 : (List UInt8)) => (iIsDigit y1) >>= fun (y12 : Bool) => if y12 = true then (iReadToken_J1 p1 x8 3 y11) else ((iKeyOf y11) >>= fun (y13 : Int) => if (!decide (y13 = 0)) = true then ((iFold y11) >>= fun (y14 : (List UInt8)) => iReadToken_J1 p1 x8 1 y14) else (iReadToken_J1 p1 x8 2 y11)))
  partial_fixpoint
def gInternal_stringslite_HasPrefix (p0 : (List UInt8)) (p1 : (List UInt8)) : Option Bool :=
  (if (true && ((decide ((p1.length : Int) ≤ (p0.length : Int))) == true)) = true then subl p0 0 (p1.length : Int) else some default) >>= fun (y1 : (List UInt8)) => (some (if (decide ((p1.length : Int) ≤ (p0.length : Int))) = true then (decide (y1 = p1)) else false)) >>= fun (y2 : Bool) => some y2
def gStrings_HasPrefix (p0 : (List UInt8)) (p1 : (List UInt8)) : Option Bool :=
  (gInternal_stringslite_HasPrefix p0 p1) >>= fun (y1 : Bool) => some y1
mutual
def iReadToken_J3 (p0 : (List UInt8)) (p1 : Int) (y6 : (List (List UInt8))) (x24 : Int) (b7_1_20 : (List UInt8)) : Option (GToken × Int × Bool) :=
  iReadToken_L2 p0 p1 y6 (IntKind.wrap .i64 (x24 + 1)) b7_1_20
  partial_fixpoint
def iReadToken_L2 (p0 : (List UInt8)) (p1 : Int) (y6 : (List (List UInt8))) (x24 : Int) (b7_1_7 : (List UInt8)) : Option (GToken × Int × Bool) :=
  if (decide (x24 < (y6.length : Int))) = true then ((idx y6 x24) >>= fun (y16 : (List UInt8)) => (subl p0 p1 (p0.length : Int)) >>= fun (y17 : (List UInt8)) => (gStrings_HasPrefix y17 y16) >>= fun (y18 : Bool) => (some (if y18 = true then (decide ((b7_1_7.length : Int) < (y16.length : Int))) else false)) >>= fun (y19 : Bool) => if y19 = true then (iReadToken_J3 p0 p1 y6 x24 y16) else (iReadToken_J3 p0 p1 y6 x24 b7_1_7)) else (iReadToken_J1 p1 (IntKind.wrap .i64 (p1 + (b7_1_7.length : Int))) 5 b7_1_7)
  partial_fixpoint
end
def iReadToken (p0 : (List UInt8)) (p1 : Int) : Option (GToken × Int × Bool) :=
  (idxS p0 p1) >>= fun (y1 : Int) => (iIsPart y1) >>= fun (y2 : Bool) => if y2 = true then (iReadToken_L0 p0 p1 y1 p1) else ((some (if (decide (y1 = 34)) = true then true else (decide (y1 = 39)))) >>= fun (y3 : Bool) => if y3 = true then ((iReadQuoted p0 p1) >>= fun (y4 : (List UInt8) × Int × Bool) => if (!y4.2.2) = true then (some ((GToken.mk 0 [] 0), 0, false)) else (if (decide (y1 = 39)) = true then (iReadToken_J1 p1 y4.2.1 4 y4.1) else (iReadToken_J1 p1 y4.2.1 2 y4.1))) else ((iSigns) >>= fun (y6 : (List (List UInt8))) => iReadToken_L2 p0 p1 y6 0 []))
def gStrings_Index (p0 : (List UInt8)) (p1 : (List UInt8)) : Option Int :=
  indexG p0 p1
def gStrings_IndexByte (p0 : (List UInt8)) (p1 : Int) : Option Int :=
  some (Lib.indexByte p0 (p1).toNat.toUInt8)
def iSkip_L0 (p0 : (List UInt8)) (x1 : Int) : Option (Int × Bool) :=
  if (decide (x1 < (p0.length : Int))) = true then ((subl p0 x1 (p0.length : Int)) >>= fun (y1 : (List UInt8)) => (idxS p0 x1) >>= fun (y2 : Int) => (gStrings_IndexByte [32, 9, 10, 13] y2) >>= fun (y3 : Int) => if (decide (0 ≤ y3)) = true then (iSkip_L0 p0 (IntKind.wrap .i64 (x1 + 1))) else ((gStrings_HasPrefix y1 [45, 45]) >>= fun (y4 : Bool) => if y4 = true then ((gStrings_IndexByte y1 10) >>= fun (y5 : Int) => if (decide (y5 < 0)) = true then (some ((p0.length : Int), true)) else (iSkip_L0 p0 (IntKind.wrap .i64 (x1 + (IntKind.wrap .i64 (y5 + 1)))))) else ((gStrings_HasPrefix y1 [47, 42]) >>= fun (y6 : Bool) => if y6 = true then ((subl y1 2 (y1.length : Int)) >>= fun (y7 : (List UInt8)) => (gStrings_Index y7 [42, 47]) >>= fun (y8 : Int) => if (decide (y8 < 0)) = true then (some (x1, false)) else (iSkip_L0 p0 (IntKind.wrap .i64 (x1 + (IntKind.wrap .i64 (y8 + 4)))))) else (some (x1, true))))) else (some (x1, true))
  partial_fixpoint
def iSkip (p0 : (List UInt8)) (p1 : Int) : Option (Int × Bool) :=
  iSkip_L0 p0 p1
def iLex_L0 (p0 : (List UInt8)) (x4 : (List GToken)) (x5 : Int) : Option ((List GToken) × Int) :=
  (iSkip p0 x5) >>= fun (y1 : Int × Bool) => if (!y1.2) = true then (some (([] : List GToken), y1.1)) else (if (decide (y1.1 = (p0.length : Int))) = true then (some (x4, (-1))) else ((iReadToken p0 y1.1) >>= fun (y2 : GToken × Int × Bool) => if (!y2.2.2) = true then (some (([] : List GToken), y1.1)) else ((appG 32 x4 ([y2.1] : List GToken)) >>= fun (y3 : List GToken) => iLex_L0 p0 y3 y2.2.1)))
  partial_fixpoint
def iLex (p0 : (List UInt8)) : Option ((List GToken) × Int) :=
  if (decide (2000 < (p0.length : Int))) = true then (some (([] : List GToken), 2000)) else (iLex_L0 p0 ([] : List GToken) 0)
def gStrings_Builder_Len_x (c0_1 : (List Int)) : Option Int :=
  some (c0_1.length : Int)
def gStrings_Builder_String_x (c0_1 : (List Int)) : Option ((List UInt8) × (List Int)) :=
  (ofBytes c0_1) >>= fun (y : List UInt8) => some (y, c0_1)
def gStrings_Builder_copyCheck_x (c0_1 : (List Int)) : Option Unit :=
  some ()
def gStrings_Builder_WriteString_x (c0_1 : (List Int)) (p1 : (List UInt8)) : Option (Int × (List Int)) :=
  (gStrings_Builder_copyCheck_x c0_1) >>= fun (y1 : Unit) => (appG 1 c0_1 (toBytes p1)) >>= fun (y2 : List Int) => some ((p1.length : Int), y2)
def iPlainName_L0 (p0 : (List UInt8)) (x19 : Int) : Option Bool :=
  if (decide (x19 < (p0.length : Int))) = true then ((idxS p0 x19) >>= fun (y7 : Int) => (iIsPart y7) >>= fun (y8 : Bool) => if (!y8) = true then (some false) else (iPlainName_L0 p0 (IntKind.wrap .i64 (x19 + 1)))) else (some true)
  partial_fixpoint
def iPlainName (p0 : (List UInt8)) : Option Bool :=
  (iNameOk p0) >>= fun (y1 : Bool) => (if (true && ((!y1) == false)) = true then idxS p0 0 else some default) >>= fun (y2 : Int) => (if (true && ((!y1) == false)) = true then iIsDigit y2 else some default) >>= fun (y3 : Bool) => (some (if (!y1) = true then true else y3)) >>= fun (y4 : Bool) => (if (true && (y4 == false)) = true then iKeyOf p0 else some default) >>= fun (y5 : Int) => (some (if y4 = true then true else (!decide (y5 = 0)))) >>= fun (y6 : Bool) => if y6 = true then (some false) else (iPlainName_L0 p0 0)
def gStrings_ReplaceAll (p0 : (List UInt8)) (p1 : (List UInt8)) (p2 : (List UInt8)) : Option (List UInt8) :=
  replG p0 p1 p2
def iQuoted (p0 : (List UInt8)) (p1 : (List UInt8)) : Option (List UInt8) :=
  (catS p1 p1) >>= fun (y1 : (List UInt8)) => (gStrings_ReplaceAll p0 p1 y1) >>= fun (y2 : (List UInt8)) => (catS p1 y2) >>= fun (y3 : (List UInt8)) => (catS y3 p1) >>= fun (y4 : (List UInt8)) => some y4
def iNameText (p0 : (List UInt8)) : Option (List UInt8) :=
  (iNameOk p0) >>= fun (y1 : Bool) => if (!y1) = true then (some []) else ((iPlainName p0) >>= fun (y2 : Bool) => if y2 = true then (some p0) else ((iQuoted p0 [34]) >>= fun (y3 : (List UInt8)) => some y3))
def iQuoteText (p0 : (List UInt8)) : Option (List UInt8) :=
  (iQuoted p0 [39]) >>= fun (y1 : (List UInt8)) => some y1
def iTokenText (p0 : GToken) : Option (List UInt8) :=
  (iTokenOk p0) >>= fun (y1 : Bool) => if (!y1) = true then (some []) else (if (decide (p0.kind = 2)) = true then ((iNameText p0.text) >>= fun (y2 : (List UInt8)) => some y2) else (if (decide (p0.kind = 4)) = true then ((iQuoteText p0.text) >>= fun (y3 : (List UInt8)) => some y3) else (some p0.text)))
def iIsQuotedName (p0 : GToken) : Option Bool :=
  (if (true && ((decide (p0.kind = 2)) == true)) = true then iPlainName p0.text else some default) >>= fun (y1 : Bool) => (some (if (decide (p0.kind = 2)) = true then (!y1) else false)) >>= fun (y2 : Bool) => some y2
def iIsWord (p0 : GToken) : Option Bool :=
  (some (if (decide (p0.kind = 1)) = true then true else (decide (p0.kind = 3)))) >>= fun (y1 : Bool) => (if ((true && (y1 == false)) && ((decide (p0.kind = 2)) == true)) = true then iPlainName p0.text else some default) >>= fun (y2 : Bool) => (if (true && (y1 == false)) = true then some (if (decide (p0.kind = 2)) = true then y2 else false) else some default) >>= fun (y3 : Bool) => (some (if y1 = true then true else y3)) >>= fun (y4 : Bool) => some y4
def iNeedsGap (p0 : GToken) (p1 : GToken) : Option Bool :=
  (iTokenOk p0) >>= fun (y1 : Bool) => (if (true && ((!y1) == false)) = true then iTokenOk p1 else some default) >>= fun (y2 : Bool) => (some (if (!y1) = true then true else (!y2))) >>= fun (y3 : Bool) => if y3 = true then (some false) else ((iIsWord p0) >>= fun (y4 : Bool) => (if (true && (y4 == true)) = true then iIsWord p1 else some default) >>= fun (y5 : Bool) => (some (if y4 = true then y5 else false)) >>= fun (y6 : Bool) => (if (true && (y6 == false)) = true then iIsQuotedName p0 else some default) >>= fun (y7 : Bool) => (if ((true && (y6 == false)) && (y7 == true)) = true then iIsQuotedName p1 else some default) >>= fun (y8 : Bool) => (if (true && (y6 == false)) = true then some (if y7 = true then y8 else false) else some default) >>= fun (y9 : Bool) => (some (if y6 = true then true else y9)) >>= fun (y10 : Bool) => (if (true && (y10 == false)) = true then some (if (decide (p0.kind = 4)) = true then (decide (p1.kind = 4)) else false) else some default) >>= fun (y11 : Bool) => (some (if y10 = true then true else y11)) >>= fun (y12 : Bool) => if y12 = true then (some true) else ((some (if (!decide (p0.kind = 5)) = true then true else (!decide (p1.kind = 5)))) >>= fun (y13 : Bool) => if y13 = true then (some false) else (if (decide (p0.text = [45])) = true then (some (decide (p1.text = [45]))) else (if (decide (p0.text = [47])) = true then (some (decide (p1.text = [42]))) else (if (decide (p0.text = [60])) = true then ((idxS p1.text 0) >>= fun (y14 : Int) => (if (true && ((decide (y14 = 61)) == false)) = true then idxS p1.text 0 else some default) >>= fun (y15 : Int) => (some (if (decide (y14 = 61)) = true then true else (decide (y15 = 62)))) >>= fun (y16 : Bool) => some y16) else (if (decide (p0.text = [62])) = true then ((idxS p1.text 0) >>= fun (y17 : Int) => some (decide (y17 = 61))) else (some false)))))))
mutual
def iJoined_iNeedsGap_J1 (p0 : (List GToken)) (x11 : Int) (y1 : GToken) (b5_1_7 : (List Int)) : Option (List UInt8) :=
  (iTokenText y1) >>= fun (y10 : (List UInt8)) => (gStrings_Builder_WriteString_x b5_1_7 y10) >>= fun (y11 : Int × (List Int)) => iJoined_iNeedsGap_L0 p0 (IntKind.wrap .i64 (x11 + 1)) y11.2
  partial_fixpoint
def iJoined_iNeedsGap_L0 (p0 : (List GToken)) (x11 : Int) (b5_1 : (List Int)) : Option (List UInt8) :=
  if (decide (x11 < (p0.length : Int))) = true then ((idx p0 x11) >>= fun (y1 : GToken) => (iTokenOk y1) >>= fun (y2 : Bool) => if (!y2) = true then (some []) else ((if (true && ((decide (0 < x11)) == true)) = true then idx p0 (IntKind.wrap .i64 (x11 - 1)) else some default) >>= fun (y3 : GToken) => (if (true && ((decide (0 < x11)) == true)) = true then iNeedsGap y3 y1 else some default) >>= fun (y4 : Bool) => (some (if (decide (0 < x11)) = true then y4 else false)) >>= fun (y5 : Bool) => if y5 = true then ((gStrings_Builder_WriteString_x b5_1 [32]) >>= fun (y6 : Int × (List Int)) => iJoined_iNeedsGap_J1 p0 x11 y1 y6.2) else (iJoined_iNeedsGap_J1 p0 x11 y1 b5_1))) else ((gStrings_Builder_Len_x b5_1) >>= fun (y8 : Int) => if (decide (2000 < y8)) = true then (some []) else ((gStrings_Builder_String_x b5_1) >>= fun (y9 : (List UInt8) × (List Int)) => some y9.1))
  partial_fixpoint
end
def iJoined_iNeedsGap (p0 : (List GToken)) : Option (List UInt8) :=
  iJoined_iNeedsGap_L0 p0 0 ([] : List Int)
def iSpaced (p0 : (List GToken)) : Option (List UInt8) :=
  (iJoined_iNeedsGap p0) >>= fun (y1 : (List UInt8)) => some y1
def iSqueeze (p0 : (List UInt8)) : Option ((List UInt8) × Int) :=
  (iLex p0) >>= fun (y1 : (List GToken) × Int) => if (decide (0 ≤ y1.2)) = true then (some ([], y1.2)) else ((iSpaced y1.1) >>= fun (y2 : (List UInt8)) => some (y2, (-1)))
def sL1New_L0 (p0 : (List Int)) (x3 : Int) (x4 : Int) : Option GL1Cur :=
  (some (if (decide (x4 < (p0.length : Int))) = true then (decide (x4 < 4000)) else false)) >>= fun (y1 : Bool) => if y1 = true then ((idx p0 x4) >>= fun (y2 : Int) => sL1New_L0 p0 (IntKind.wrap .i64 ((BitVec.ofInt (IntKind.bits .i64) (IntKind.wrap .i64 ((IntKind.wrap .i64 ((IntKind.wrap .i64 (x3 * 131)) + (IntKind.wrap .i64 y2))) + 7)) &&& BitVec.ofInt (IntKind.bits .i64) 1073741823).toNat : Int)) (IntKind.wrap .i64 (x4 + 1))) else (some (GL1Cur.mk p0 0 x3))
  partial_fixpoint
def sL1New (p0 : (List Int)) : Option GL1Cur :=
  sL1New_L0 p0 (IntKind.wrap .i64 (28322 + (p0.length : Int))) 0
def sL1Byte_J0 (p0 : GL1Cur) (x3 : Int) (b1000000_1 : Int) : Option (Int × GL1Cur) :=
  some (x3, (GL1Cur.mk p0.b b1000000_1 (IntKind.wrap .i64 ((IntKind.wrap .i64 (p0.h * 6364136223846793005)) + 1442695040888963407))))
def sL1Byte (p0 : GL1Cur) : Option (Int × GL1Cur) :=
  if (decide (p0.i < (p0.b.length : Int))) = true then ((idx p0.b p0.i) >>= fun (y1 : Int) => sL1Byte_J0 p0 (IntKind.wrap .i64 ((BitVec.ofInt (IntKind.bits .i64) (IntKind.wrap .i64 ((IntKind.wrap .i64 ((BitVec.ofInt (IntKind.bits .i64) (IntKind.wrap .i64 ((BitVec.ofInt (IntKind.bits .i64) (Int.fdiv (IntKind.wrap .i64 ((IntKind.wrap .i64 (p0.h * 6364136223846793005)) + 1442695040888963407)) (2 ^ 33)) ^^^ BitVec.ofInt (IntKind.bits .i64) (Int.fdiv (IntKind.wrap .i64 ((IntKind.wrap .i64 (p0.h * 6364136223846793005)) + 1442695040888963407)) (2 ^ 45))).toNat : Int)) &&& BitVec.ofInt (IntKind.bits .i64) 255).toNat : Int)) + (IntKind.wrap .i64 y1))) &&& BitVec.ofInt (IntKind.bits .i64) 255).toNat : Int)) (IntKind.wrap .i64 (p0.i + 1))) else (sL1Byte_J0 p0 (IntKind.wrap .i64 ((BitVec.ofInt (IntKind.bits .i64) (IntKind.wrap .i64 ((BitVec.ofInt (IntKind.bits .i64) (Int.fdiv (IntKind.wrap .i64 ((IntKind.wrap .i64 (p0.h * 6364136223846793005)) + 1442695040888963407)) (2 ^ 33)) ^^^ BitVec.ofInt (IntKind.bits .i64) (Int.fdiv (IntKind.wrap .i64 ((IntKind.wrap .i64 (p0.h * 6364136223846793005)) + 1442695040888963407)) (2 ^ 45))).toNat : Int)) &&& BitVec.ofInt (IntKind.bits .i64) 255).toNat : Int)) p0.i)
def sL1Below (p0 : GL1Cur) (p1 : Int) : Option (Int × GL1Cur) :=
  if (decide (p1 ≤ 0)) = true then (some (0, p0)) else (if (decide (p1 ≤ 256)) = true then ((sL1Byte p0) >>= fun (y1 : Int × GL1Cur) => (remG y1.1 p1) >>= fun (y2 : Int) => some (y2, y1.2)) else ((sL1Byte p0) >>= fun (y3 : Int × GL1Cur) => (sL1Byte y3.2) >>= fun (y4 : Int × GL1Cur) => (sL1Byte y4.2) >>= fun (y5 : Int × GL1Cur) => (sL1Byte y5.2) >>= fun (y6 : Int × GL1Cur) => (remG (IntKind.wrap .i64 ((IntKind.wrap .i64 ((IntKind.wrap .i64 ((IntKind.wrap .i64 (y3.1 * 16777216)) + (IntKind.wrap .i64 (y4.1 * 65536)))) + (IntKind.wrap .i64 (y5.1 * 256)))) + y6.1)) p1) >>= fun (y7 : Int) => some (y7, y6.2)))
def sFold_J2 (x3 : (List Int)) : Option (List UInt8) :=
  (ofBytes x3) >>= fun (y3 : (List UInt8)) => some y3
mutual
def sFold_J1 (x4 : Int) (b60052000_0 : (List Int)) : Option (List UInt8) :=
  sFold_L0 (IntKind.wrap .i64 (x4 + 1)) b60052000_0
  partial_fixpoint
def sFold_L0 (x4 : Int) (b60013000_0 : (List Int)) : Option (List UInt8) :=
  if (decide (x4 < (b60013000_0.length : Int))) = true then ((idx b60013000_0 x4) >>= fun (y1 : Int) => (some (if (decide (97 ≤ y1)) = true then (decide (y1 ≤ 122)) else false)) >>= fun (y2 : Bool) => if y2 = true then (sFold_J1 x4 (b60013000_0.set (x4).toNat (IntKind.wrap .u8 (y1 - 32)))) else (sFold_J1 x4 (b60013000_0.set (x4).toNat y1))) else (sFold_J2 b60013000_0)
  partial_fixpoint
end
def sFold (p0 : (List UInt8)) : Option (List UInt8) :=
  sFold_L0 0 (toBytes p0)
def sL1Bytes_L0 (p1 : Int) (x5 : (List Int)) (x6 : Int) (b1000000_0 : (List Int)) (b1000000_1 : Int) (b1000000_2 : Int) : Option ((List Int) × GL1Cur) :=
  if (decide (x6 < p1)) = true then ((sL1Byte (GL1Cur.mk b1000000_0 b1000000_1 b1000000_2)) >>= fun (y1 : Int × GL1Cur) => (appG 1 x5 ([(IntKind.wrap .u8 y1.1)] : List Int)) >>= fun (y2 : List Int) => sL1Bytes_L0 p1 y2 (IntKind.wrap .i64 (x6 + 1)) y1.2.b y1.2.i y1.2.h) else (some (x5, (GL1Cur.mk b1000000_0 b1000000_1 b1000000_2)))
  partial_fixpoint
def sL1Bytes (p0 : GL1Cur) (p1 : Int) : Option ((List Int) × GL1Cur) :=
  sL1Bytes_L0 p1 ([] : List Int) 0 p0.b p0.i p0.h
def sL1Pick (p0 : GL1Cur) (p1 : (List (List UInt8))) : Option ((List UInt8) × GL1Cur) :=
  (sL1Below p0 (p1.length : Int)) >>= fun (y1 : Int × GL1Cur) => (idx p1 y1.1) >>= fun (y2 : (List UInt8)) => some (y2, y1.2)
def sL1Once (p0 : GL1Cur) (p1 : Int) : Option (Bool × GL1Cur) :=
  (sL1Below p0 p1) >>= fun (y1 : Int × GL1Cur) => some ((decide (y1.1 = 0)), y1.2)
def sL3Source_J3 (x3_24 : (List UInt8)) (b1000000_0_25 : (List Int)) (b1000000_1_26 : Int) (b1000000_2_27 : Int) : Option ((List UInt8) × GL1Cur) :=
  some (x3_24, (GL1Cur.mk b1000000_0_25 b1000000_1_26 b1000000_2_27))
def sL3Source_L2 (y22 : Bool × GL1Cur) (x3_23 : (List UInt8)) : Option ((List UInt8) × GL1Cur) :=
  if (decide ((x3_23.length : Int) < 2001)) = true then ((catS x3_23 [32, 32, 32, 32, 32, 32, 32, 32, 32, 32, 32, 32, 32, 32, 32, 32, 32, 32, 32, 32]) >>= fun (y28 : (List UInt8)) => sL3Source_L2 y22 y28) else ((sL1Below y22.2 2) >>= fun (y29 : Int × GL1Cur) => (subl x3_23 0 (IntKind.wrap .i64 (2000 + y29.1))) >>= fun (y30 : (List UInt8)) => sL3Source_J3 y30 y29.2.b y29.2.i y29.2.h)
  partial_fixpoint
def sL3Source_J1 (x3_10 : (List UInt8)) (b1000000_0_11 : (List Int)) (b1000000_1_12 : Int) (b1000000_2_13 : Int) : Option ((List UInt8) × GL1Cur) :=
  (sL1Once (GL1Cur.mk b1000000_0_11 b1000000_1_12 b1000000_2_13) 60) >>= fun (y22 : Bool × GL1Cur) => if y22.1 = true then (sL3Source_L2 y22 x3_10) else (sL3Source_J3 x3_10 y22.2.b y22.2.i y22.2.h)
mutual
def sDigits_J1 (x0 : Int) (p0 : Int) (x4 : (List UInt8)) (x5 : Int) : Option (List UInt8) :=
  (ofBytes ([(IntKind.wrap .u8 (IntKind.wrap .i64 (48 + x5)))] : List Int)) >>= fun (y2 : (List UInt8)) => (catS y2 x4) >>= fun (y3 : (List UInt8)) => sDigits_L0 p0 (IntKind.wrap .i64 (Int.tdiv x0 10)) y3
  partial_fixpoint
def sDigits_L0 (p0 : Int) (x0 : Int) (x4 : (List UInt8)) : Option (List UInt8) :=
  if (!decide (x0 = 0)) = true then (if (decide ((Int.tmod x0 10) < 0)) = true then (sDigits_J1 x0 p0 x4 (IntKind.wrap .i64 (0 - (Int.tmod x0 10)))) else (sDigits_J1 x0 p0 x4 (Int.tmod x0 10))) else (if (decide (p0 < 0)) = true then ((catS [45] x4) >>= fun (y1 : (List UInt8)) => some y1) else (some x4))
  partial_fixpoint
end
def sDigits (p0 : Int) : Option (List UInt8) :=
  if (decide (p0 = 0)) = true then (some [48]) else (sDigits_L0 p0 p0 [])
def sL1Max (p0 : Int) (p1 : Int) : Option Int :=
  if (decide (p1 < p0)) = true then (some p0) else (some p1)
def sL1PickInt (p0 : GL1Cur) (p1 : (List Int)) : Option (Int × GL1Cur) :=
  (sL1Below p0 (p1.length : Int)) >>= fun (y1 : Int × GL1Cur) => (idx p1 y1.1) >>= fun (y2 : Int) => some (y2, y1.2)
def sL1Whole (p0 : GL1Cur) : Option (Int × GL1Cur) :=
  (sL1Below p0 3) >>= fun (y1 : Int × GL1Cur) => if (decide (y1.1 = 0)) = true then ((sL1PickInt y1.2 ([0, 1, (-1), 63, 64, (-64), (-65), 127, 128, 16383, 16384, 9223372036854775807, (-9223372036854775808), 4611686018427387904] : List Int)) >>= fun (y2 : Int × GL1Cur) => some (y2.1, y2.2)) else (if (decide (y1.1 = 1)) = true then ((sL1Below y1.2 1000000) >>= fun (y3 : Int × GL1Cur) => some ((IntKind.wrap .i64 (y3.1 - 500000)), y3.2)) else ((sL1Below y1.2 20) >>= fun (y4 : Int × GL1Cur) => some (y4.1, y4.2)))
def sL2Name (p0 : GL1Cur) : Option ((List UInt8) × GL1Cur) :=
  (sL1Once p0 6) >>= fun (y1 : Bool × GL1Cur) => if y1.1 = true then ((sL1Pick y1.2 ([[97, 32, 98], [102, 114, 111, 109], [83, 101, 108, 101, 99, 116], [49, 120], [113, 34, 113], [0], [34], [105, 116, 39, 115], [120, 46, 121], [45]] : List (List UInt8))) >>= fun (y2 : (List UInt8) × GL1Cur) => some (y2.1, y2.2)) else ((sL1Pick y1.2 ([[97], [98], [99], [116], [117], [118], [105, 100], [110, 97, 109, 101], [65], [95, 120, 49]] : List (List UInt8))) >>= fun (y3 : (List UInt8) × GL1Cur) => some (y3.1, y3.2))
def sL2Words : Option (List (List UInt8)) :=
  some ([[], [83, 69, 76, 69, 67, 84], [68, 73, 83, 84, 73, 78, 67, 84], [70, 82, 79, 77], [74, 79, 73, 78], [79, 78], [87, 72, 69, 82, 69], [79, 82, 68, 69, 82], [66, 89], [65, 83, 67], [68, 69, 83, 67], [76, 73, 77, 73, 84], [65, 83], [65, 78, 68], [79, 82], [78, 79, 84], [73, 83], [73, 78], [66, 69, 84, 87, 69, 69, 78], [69, 88, 73, 83, 84, 83], [78, 85, 76, 76], [84, 82, 85, 69], [70, 65, 76, 83, 69], [73, 78, 83, 69, 82, 84], [73, 78, 84, 79], [86, 65, 76, 85, 69, 83], [85, 80, 68, 65, 84, 69], [83, 69, 84], [68, 69, 76, 69, 84, 69]] : List (List UInt8))
def sL3Sign (p0 : GL1Cur) : Option ((List UInt8) × GL1Cur) :=
  (sL1Pick p0 ([[40], [41], [44], [46], [42], [43], [45], [47], [37], [61], [60, 62], [60], [60, 61], [62], [62, 61], [124, 124]] : List (List UInt8))) >>= fun (y1 : (List UInt8) × GL1Cur) => some (y1.1, y1.2)
def sL3Token (p0 : GL1Cur) : Option (GToken × GL1Cur) :=
  (sL1Below p0 6) >>= fun (y1 : Int × GL1Cur) => if (decide (y1.1 = 0)) = true then ((sL2Words) >>= fun (y2 : (List (List UInt8))) => (sL1Below y1.2 28) >>= fun (y3 : Int × GL1Cur) => (idx y2 (IntKind.wrap .i64 (1 + y3.1))) >>= fun (y4 : (List UInt8)) => some ((GToken.mk 1 y4 0), y3.2)) else (if (decide (y1.1 = 1)) = true then ((sL2Name y1.2) >>= fun (y5 : (List UInt8) × GL1Cur) => some ((GToken.mk 2 y5.1 0), y5.2)) else (if (decide (y1.1 = 2)) = true then ((sL1Whole y1.2) >>= fun (y6 : Int × GL1Cur) => (sL1Max 0 y6.1) >>= fun (y7 : Int) => (sDigits y7) >>= fun (y8 : (List UInt8)) => some ((GToken.mk 3 y8 0), y6.2)) else (if (decide (y1.1 = 3)) = true then ((sL1Pick y1.2 ([[], [120], [105, 116, 39, 115], [39, 39], [116, 119, 111, 32, 119, 111, 114, 100, 115], [34], [45, 45], [0, 255]] : List (List UInt8))) >>= fun (y9 : (List UInt8) × GL1Cur) => some ((GToken.mk 4 y9.1 0), y9.2)) else ((sL3Sign y1.2) >>= fun (y10 : (List UInt8) × GL1Cur) => some ((GToken.mk 5 y10.1 0), y10.2)))))
mutual
def sL2Quote_J1 (p0 : (List UInt8)) (p1 : Int) (x6 : Int) (x5_3 : (List Int)) : Option (List UInt8) :=
  (idxS p0 x6) >>= fun (y6 : Int) => (appG 1 x5_3 ([y6] : List Int)) >>= fun (y7 : List Int) => sL2Quote_L0 p0 p1 y7 (IntKind.wrap .i64 (x6 + 1))
  partial_fixpoint
def sL2Quote_L0 (p0 : (List UInt8)) (p1 : Int) (x5 : (List Int)) (x6 : Int) : Option (List UInt8) :=
  if (decide (x6 < (p0.length : Int))) = true then ((idxS p0 x6) >>= fun (y1 : Int) => if (decide (y1 = p1)) = true then ((appG 1 x5 ([p1] : List Int)) >>= fun (y2 : List Int) => sL2Quote_J1 p0 p1 x6 y2) else (sL2Quote_J1 p0 p1 x6 x5)) else ((appG 1 x5 ([p1] : List Int)) >>= fun (y4 : List Int) => (ofBytes y4) >>= fun (y5 : (List UInt8)) => some y5)
  partial_fixpoint
end
def sL2Quote (p0 : (List UInt8)) (p1 : Int) : Option (List UInt8) :=
  sL2Quote_L0 p0 p1 ([p1] : List Int) 0
def sL1In (p0 : Int) (p1 : Int) (p2 : Int) : Option Bool :=
  (some (if (decide (p1 ≤ p0)) = true then (decide (p0 ≤ p2)) else false)) >>= fun (y1 : Bool) => some y1
def sNameOk (p0 : (List UInt8)) : Option Bool :=
  (sL1In (p0.length : Int) 1 20) >>= fun (y1 : Bool) => some y1
def sKeyOf_L0 (y1 : (List UInt8)) (y2 : (List (List UInt8))) (x5 : Int) : Option Int :=
  if (decide (x5 < (y2.length : Int))) = true then ((idx y2 x5) >>= fun (y3 : (List UInt8)) => if (decide (y3 = y1)) = true then (some x5) else (sKeyOf_L0 y1 y2 (IntKind.wrap .i64 (x5 + 1)))) else (some 0)
  partial_fixpoint
def sKeyOf (p0 : (List UInt8)) : Option Int :=
  if (decide (8 < (p0.length : Int))) = true then (some 0) else ((sFold p0) >>= fun (y1 : (List UInt8)) => (sL2Words) >>= fun (y2 : (List (List UInt8))) => sKeyOf_L0 y1 y2 1)
def sL2Figure (p0 : Int) : Option Bool :=
  (some (if (decide (48 ≤ p0)) = true then (decide (p0 ≤ 57)) else false)) >>= fun (y1 : Bool) => some y1
def sL2Letter (p0 : Int) : Option Bool :=
  (some (if (decide (97 ≤ p0)) = true then (decide (p0 ≤ 122)) else false)) >>= fun (y1 : Bool) => (if (true && (y1 == false)) = true then some (if (decide (65 ≤ p0)) = true then (decide (p0 ≤ 90)) else false) else some default) >>= fun (y2 : Bool) => (some (if y1 = true then true else y2)) >>= fun (y3 : Bool) => (some (if y3 = true then true else (decide (p0 = 95)))) >>= fun (y4 : Bool) => some y4
def sPlainName_L0 (p0 : (List UInt8)) (x3 : Int) : Option Bool :=
  if (decide (x3 < (p0.length : Int))) = true then ((idxS p0 x3) >>= fun (y7 : Int) => (sL2Letter y7) >>= fun (y8 : Bool) => (if (true && ((!y8) == true)) = true then idxS p0 x3 else some default) >>= fun (y9 : Int) => (if (true && ((!y8) == true)) = true then sL2Figure y9 else some default) >>= fun (y10 : Bool) => (some (if (!y8) = true then (!y10) else false)) >>= fun (y11 : Bool) => if y11 = true then (some false) else (sPlainName_L0 p0 (IntKind.wrap .i64 (x3 + 1)))) else (some true)
  partial_fixpoint
def sPlainName (p0 : (List UInt8)) : Option Bool :=
  (sNameOk p0) >>= fun (y1 : Bool) => (if (true && ((!y1) == false)) = true then idxS p0 0 else some default) >>= fun (y2 : Int) => (if (true && ((!y1) == false)) = true then sL2Figure y2 else some default) >>= fun (y3 : Bool) => (some (if (!y1) = true then true else y3)) >>= fun (y4 : Bool) => (if (true && (y4 == false)) = true then sKeyOf p0 else some default) >>= fun (y5 : Int) => (some (if y4 = true then true else (decide (0 < y5)))) >>= fun (y6 : Bool) => if y6 = true then (some false) else (sPlainName_L0 p0 0)
def sNameText (p0 : (List UInt8)) : Option (List UInt8) :=
  (sNameOk p0) >>= fun (y1 : Bool) => if (!y1) = true then (some []) else ((sPlainName p0) >>= fun (y2 : Bool) => if y2 = true then (some p0) else ((sL2Quote p0 34) >>= fun (y3 : (List UInt8)) => some y3))
def sQuoteText (p0 : (List UInt8)) : Option (List UInt8) :=
  (sL2Quote p0 39) >>= fun (y1 : (List UInt8)) => some y1
def sNumber_L0 (p0 : (List UInt8)) (x4 : Int) (x5 : Int) : Option (Int × Bool) :=
  if (decide (x5 < (p0.length : Int))) = true then ((idxS p0 x5) >>= fun (y2 : Int) => (if (true && ((decide (y2 < 48)) == false)) = true then idxS p0 x5 else some default) >>= fun (y3 : Int) => (some (if (decide (y2 < 48)) = true then true else (decide (57 < y3)))) >>= fun (y4 : Bool) => if y4 = true then (some (0, false)) else ((idxS p0 x5) >>= fun (y5 : Int) => if (decide ((IntKind.wrap .i64 (Int.tdiv (IntKind.wrap .i64 (9223372036854775807 - (IntKind.wrap .i64 ((IntKind.wrap .i64 y5) - 48)))) 10)) < x4)) = true then (some (0, false)) else (sNumber_L0 p0 (IntKind.wrap .i64 ((IntKind.wrap .i64 (10 * x4)) + (IntKind.wrap .i64 ((IntKind.wrap .i64 y5) - 48)))) (IntKind.wrap .i64 (x5 + 1))))) else ((sDigits x4) >>= fun (y6 : (List UInt8)) => if (!decide (y6 = p0)) = true then (some (0, false)) else (some (x4, true)))
  partial_fixpoint
def sNumber (p0 : (List UInt8)) : Option (Int × Bool) :=
  (some (if (decide ((p0.length : Int) < 1)) = true then true else (decide (19 < (p0.length : Int))))) >>= fun (y1 : Bool) => if y1 = true then (some (0, false)) else (sNumber_L0 p0 0 0)
def sSignOk_J0 (x4 : Bool) : Option Bool :=
  if x4 = true then (some true) else (some false)
def sSignOk (p0 : (List UInt8)) : Option Bool :=
  if (decide (p0 = [40])) = true then (sSignOk_J0 (decide (p0 = [40]))) else (if (decide (p0 = [41])) = true then (sSignOk_J0 (decide (p0 = [41]))) else (if (decide (p0 = [44])) = true then (sSignOk_J0 (decide (p0 = [44]))) else (if (decide (p0 = [46])) = true then (sSignOk_J0 (decide (p0 = [46]))) else (if (decide (p0 = [42])) = true then (sSignOk_J0 (decide (p0 = [42]))) else (if (decide (p0 = [43])) = true then (sSignOk_J0 (decide (p0 = [43]))) else (if (decide (p0 = [45])) = true then (sSignOk_J0 (decide (p0 = [45]))) else (if (decide (p0 = [47])) = true then (sSignOk_J0 (decide (p0 = [47]))) else (if (decide (p0 = [37])) = true then (sSignOk_J0 (decide (p0 = [37]))) else (if (decide (p0 = [61])) = true then (sSignOk_J0 (decide (p0 = [61]))) else (if (decide (p0 = [60, 62])) = true then (sSignOk_J0 (decide (p0 = [60, 62]))) else (if (decide (p0 = [60])) = true then (sSignOk_J0 (decide (p0 = [60]))) else (if (decide (p0 = [60, 61])) = true then (sSignOk_J0 (decide (p0 = [60, 61]))) else (if (decide (p0 = [62])) = true then (sSignOk_J0 (decide (p0 = [62]))) else (if (decide (p0 = [62, 61])) = true then (sSignOk_J0 (decide (p0 = [62, 61]))) else (sSignOk_J0 (decide (p0 = [124, 124])))))))))))))))))
def sTokenOk (p0 : GToken) : Option Bool :=
  if (decide (p0.kind = 1)) = true then ((sKeyOf p0.text) >>= fun (y1 : Int) => (if (true && ((decide (0 < y1)) == true)) = true then sFold p0.text else some default) >>= fun (y2 : (List UInt8)) => (some (if (decide (0 < y1)) = true then (decide (y2 = p0.text)) else false)) >>= fun (y3 : Bool) => some y3) else (if (decide (p0.kind = 2)) = true then ((sNameOk p0.text) >>= fun (y4 : Bool) => some y4) else (if (decide (p0.kind = 3)) = true then ((sNumber p0.text) >>= fun (y5 : Int × Bool) => some y5.2) else (if (decide (p0.kind = 4)) = true then (some (decide ((p0.text.length : Int) ≤ 40))) else (if (decide (p0.kind = 5)) = true then ((sSignOk p0.text) >>= fun (y6 : Bool) => some y6) else (some false)))))
def sTokenText (p0 : GToken) : Option (List UInt8) :=
  (sTokenOk p0) >>= fun (y1 : Bool) => if (!y1) = true then (some []) else (if (decide (p0.kind = 2)) = true then ((sNameText p0.text) >>= fun (y2 : (List UInt8)) => some y2) else (if (decide (p0.kind = 4)) = true then ((sQuoteText p0.text) >>= fun (y3 : (List UInt8)) => some y3) else (some p0.text)))
def sL3Source_L0 (y1 : Int × GL1Cur) (x3 : (List UInt8)) (x5 : Int) (b1000000_0 : (List Int)) (b1000000_1 : Int) (b1000000_2 : Int) : Option ((List UInt8) × GL1Cur) :=
  if (decide (x5 < y1.1)) = true then ((sL1Pick (GL1Cur.mk b1000000_0 b1000000_1 b1000000_2) ([[], [32], [10], [9], [45, 45, 32, 120, 10], [47, 42, 32, 121, 32, 42, 47], [47, 42, 42, 47], [32]] : List (List UInt8))) >>= fun (y2 : (List UInt8) × GL1Cur) => (catS x3 y2.1) >>= fun (y3 : (List UInt8)) => (sL3Token y2.2) >>= fun (y4 : GToken × GL1Cur) => (sTokenText y4.1) >>= fun (y5 : (List UInt8)) => (catS y3 y5) >>= fun (y6 : (List UInt8)) => sL3Source_L0 y1 y6 (IntKind.wrap .i64 (x5 + 1)) y4.2.b y4.2.i y4.2.h) else ((sL1Below (GL1Cur.mk b1000000_0 b1000000_1 b1000000_2) 10) >>= fun (y7 : Int × GL1Cur) => if (decide (y7.1 = 0)) = true then ((sL1Pick y7.2 ([[39], [34], [47, 42], [47, 42, 47], [45, 45], [124], [34, 34], [49, 50, 120], [48, 49], [33], [195, 169], [0]] : List (List UInt8))) >>= fun (y8 : (List UInt8) × GL1Cur) => (catS x3 y8.1) >>= fun (y9 : (List UInt8)) => sL3Source_J1 y9 y8.2.b y8.2.i y8.2.h) else (if (decide (y7.1 = 1)) = true then ((sL1Below y7.2 (IntKind.wrap .i64 ((x3.length : Int) + 1))) >>= fun (y14 : Int × GL1Cur) => (subl x3 0 y14.1) >>= fun (y15 : (List UInt8)) => (sL1Bytes y14.2 1) >>= fun (y16 : (List Int) × GL1Cur) => (ofBytes y16.1) >>= fun (y17 : (List UInt8)) => (catS y15 y17) >>= fun (y18 : (List UInt8)) => (subl x3 y14.1 (x3.length : Int)) >>= fun (y19 : (List UInt8)) => (catS y18 y19) >>= fun (y20 : (List UInt8)) => sL3Source_J1 y20 y16.2.b y16.2.i y16.2.h) else (if (decide (y7.1 = 2)) = true then ((sFold x3) >>= fun (y21 : (List UInt8)) => sL3Source_J1 y21 y7.2.b y7.2.i y7.2.h) else (sL3Source_J1 x3 y7.2.b y7.2.i y7.2.h))))
  partial_fixpoint
def sL3Source (p0 : GL1Cur) : Option ((List UInt8) × GL1Cur) :=
  (sL1Below p0 8) >>= fun (y1 : Int × GL1Cur) => sL3Source_L0 y1 [] 0 y1.2.b y1.2.i y1.2.h
def sDrawSqueeze (p0 : (List Int)) : Option (List UInt8) :=
  (sL1New p0) >>= fun (y1 : GL1Cur) => (sL3Source y1) >>= fun (y2 : (List UInt8) × GL1Cur) => some y2.1
def sL3One_J0 (p1 : Int) (x7 : Int) (b6_0 : Int) (b6_1 : (List UInt8)) : Option (GToken × Int) :=
  (if (true && ((decide (x7 < 0)) == false)) = true then sTokenOk (GToken.mk b6_0 b6_1 p1) else some default) >>= fun (y19 : Bool) => (some (if (decide (x7 < 0)) = true then true else (!y19))) >>= fun (y20 : Bool) => if y20 = true then (some ((GToken.mk b6_0 b6_1 p1), (-1))) else (some ((GToken.mk b6_0 b6_1 p1), x7))
def sL3One_J1 (p0 : (List UInt8)) (p1 : Int) (x7_18 : Int) : Option (GToken × Int) :=
  (subl p0 p1 x7_18) >>= fun (y21 : (List UInt8)) => sL3One_J0 p1 x7_18 5 y21
mutual
def sL3Quoted_J1 (p0 : (List UInt8)) (y1 : Int) (x7_5 : (List Int)) (x8_6 : Int) : Option ((List UInt8) × Int) :=
  sL3Quoted_L0 p0 y1 x7_5 (IntKind.wrap .i64 (x8_6 + 1))
  partial_fixpoint
def sL3Quoted_L0 (p0 : (List UInt8)) (y1 : Int) (x7 : (List Int)) (x8 : Int) : Option ((List UInt8) × Int) :=
  if (decide (x8 < (p0.length : Int))) = true then ((idxS p0 x8) >>= fun (y2 : Int) => if (!decide (y2 = y1)) = true then ((idxS p0 x8) >>= fun (y3 : Int) => (appG 1 x7 ([y3] : List Int)) >>= fun (y4 : List Int) => sL3Quoted_J1 p0 y1 y4 x8) else ((if (true && ((decide ((p0.length : Int) ≤ (IntKind.wrap .i64 (x8 + 1)))) == false)) = true then idxS p0 (IntKind.wrap .i64 (x8 + 1)) else some default) >>= fun (y7 : Int) => (some (if (decide ((p0.length : Int) ≤ (IntKind.wrap .i64 (x8 + 1)))) = true then true else (!decide (y7 = y1)))) >>= fun (y8 : Bool) => if y8 = true then ((ofBytes x7) >>= fun (y9 : (List UInt8)) => some (y9, (IntKind.wrap .i64 (x8 + 1)))) else ((appG 1 x7 ([y1] : List Int)) >>= fun (y10 : List Int) => sL3Quoted_J1 p0 y1 y10 (IntKind.wrap .i64 (x8 + 1))))) else (some ([], (-1)))
  partial_fixpoint
end
def sL3Quoted (p0 : (List UInt8)) (p1 : Int) : Option ((List UInt8) × Int) :=
  (idxS p0 p1) >>= fun (y1 : Int) => sL3Quoted_L0 p0 y1 ([] : List Int) (IntKind.wrap .i64 (p1 + 1))
def sL3Run_L0 (p0 : (List UInt8)) (x1 : Int) : Option Int :=
  (if (true && ((decide (x1 < (p0.length : Int))) == true)) = true then idxS p0 x1 else some default) >>= fun (y1 : Int) => (if (true && ((decide (x1 < (p0.length : Int))) == true)) = true then sL2Letter y1 else some default) >>= fun (y2 : Bool) => (if ((true && ((decide (x1 < (p0.length : Int))) == true)) && (y2 == false)) = true then idxS p0 x1 else some default) >>= fun (y3 : Int) => (if ((true && ((decide (x1 < (p0.length : Int))) == true)) && (y2 == false)) = true then sL2Figure y3 else some default) >>= fun (y4 : Bool) => (if (true && ((decide (x1 < (p0.length : Int))) == true)) = true then some (if y2 = true then true else y4) else some default) >>= fun (y5 : Bool) => (some (if (decide (x1 < (p0.length : Int))) = true then y5 else false)) >>= fun (y6 : Bool) => if y6 = true then (sL3Run_L0 p0 (IntKind.wrap .i64 (x1 + 1))) else (some x1)
  partial_fixpoint
def sL3Run (p0 : (List UInt8)) (p1 : Int) : Option Int :=
  sL3Run_L0 p0 p1
def sL3One (p0 : (List UInt8)) (p1 : Int) : Option (GToken × Int) :=
  (idxS p0 p1) >>= fun (y1 : Int) => (sL2Letter y1) >>= fun (y2 : Bool) => if y2 = true then ((sL3Run p0 p1) >>= fun (y3 : Int) => (subl p0 p1 y3) >>= fun (y4 : (List UInt8)) => (sKeyOf y4) >>= fun (y5 : Int) => if (decide (0 < y5)) = true then ((sFold y4) >>= fun (y6 : (List UInt8)) => sL3One_J0 p1 y3 1 y6) else (sL3One_J0 p1 y3 2 y4)) else ((idxS p0 p1) >>= fun (y7 : Int) => (sL2Figure y7) >>= fun (y8 : Bool) => if y8 = true then ((sL3Run p0 p1) >>= fun (y9 : Int) => (subl p0 p1 y9) >>= fun (y10 : (List UInt8)) => sL3One_J0 p1 y9 3 y10) else ((idxS p0 p1) >>= fun (y11 : Int) => if (decide (y11 = 34)) = true then ((sL3Quoted p0 p1) >>= fun (y12 : (List UInt8) × Int) => sL3One_J0 p1 y12.2 2 y12.1) else ((idxS p0 p1) >>= fun (y13 : Int) => if (decide (y13 = 39)) = true then ((sL3Quoted p0 p1) >>= fun (y14 : (List UInt8) × Int) => sL3One_J0 p1 y14.2 4 y14.1) else ((if (true && ((decide ((IntKind.wrap .i64 (p1 + 2)) ≤ (p0.length : Int))) == true)) = true then subl p0 p1 (IntKind.wrap .i64 (p1 + 2)) else some default) >>= fun (y15 : (List UInt8)) => (if (true && ((decide ((IntKind.wrap .i64 (p1 + 2)) ≤ (p0.length : Int))) == true)) = true then sSignOk y15 else some default) >>= fun (y16 : Bool) => (some (if (decide ((IntKind.wrap .i64 (p1 + 2)) ≤ (p0.length : Int))) = true then y16 else false)) >>= fun (y17 : Bool) => if y17 = true then (sL3One_J1 p0 p1 (IntKind.wrap .i64 (p1 + 2))) else (sL3One_J1 p0 p1 (IntKind.wrap .i64 (p1 + 1)))))))
def sL1Min (p0 : Int) (p1 : Int) : Option Int :=
  if (decide (p0 < p1)) = true then (some p0) else (some p1)
mutual
def sL3Pass_L2 (p0 : (List UInt8)) (x1 : Int) (x6 : Int) : Option Int :=
  (if (true && ((decide (x6 < (p0.length : Int))) == true)) = true then sL1Min (p0.length : Int) (IntKind.wrap .i64 (x6 + 2)) else some default) >>= fun (y13 : Int) => (if (true && ((decide (x6 < (p0.length : Int))) == true)) = true then subl p0 x6 y13 else some default) >>= fun (y14 : (List UInt8)) => (some (if (decide (x6 < (p0.length : Int))) = true then (!decide (y14 = [42, 47])) else false)) >>= fun (y15 : Bool) => if y15 = true then (sL3Pass_L2 p0 x1 (IntKind.wrap .i64 (x6 + 1))) else (if (decide ((p0.length : Int) ≤ x6)) = true then (some (IntKind.wrap .i64 ((IntKind.wrap .i64 (0 - x1)) - 1))) else (sL3Pass_L0 p0 (IntKind.wrap .i64 (x6 + 2))))
  partial_fixpoint
def sL3Pass_L1 (p0 : (List UInt8)) (x1_10 : Int) : Option Int :=
  (if (true && ((decide (x1_10 < (p0.length : Int))) == true)) = true then idxS p0 x1_10 else some default) >>= fun (y11 : Int) => (some (if (decide (x1_10 < (p0.length : Int))) = true then (!decide (y11 = 10)) else false)) >>= fun (y12 : Bool) => if y12 = true then (sL3Pass_L1 p0 (IntKind.wrap .i64 (x1_10 + 1))) else (sL3Pass_L0 p0 x1_10)
  partial_fixpoint
def sL3Pass_L0 (p0 : (List UInt8)) (x1 : Int) : Option Int :=
  if (decide (x1 < (p0.length : Int))) = true then ((sL1Min (p0.length : Int) (IntKind.wrap .i64 (x1 + 2))) >>= fun (y1 : Int) => (subl p0 x1 y1) >>= fun (y2 : (List UInt8)) => (idxS p0 x1) >>= fun (y3 : Int) => (if (true && ((decide (y3 = 32)) == false)) = true then idxS p0 x1 else some default) >>= fun (y4 : Int) => (some (if (decide (y3 = 32)) = true then true else (decide (y4 = 9)))) >>= fun (y5 : Bool) => (if (true && (y5 == false)) = true then idxS p0 x1 else some default) >>= fun (y6 : Int) => (some (if y5 = true then true else (decide (y6 = 10)))) >>= fun (y7 : Bool) => (if (true && (y7 == false)) = true then idxS p0 x1 else some default) >>= fun (y8 : Int) => (some (if y7 = true then true else (decide (y8 = 13)))) >>= fun (y9 : Bool) => if y9 = true then (sL3Pass_L0 p0 (IntKind.wrap .i64 (x1 + 1))) else (if (decide (y2 = [45, 45])) = true then (sL3Pass_L1 p0 x1) else (if (decide (y2 = [47, 42])) = true then (sL3Pass_L2 p0 x1 (IntKind.wrap .i64 (x1 + 2))) else (some x1)))) else (some x1)
  partial_fixpoint
end
def sL3Pass (p0 : (List UInt8)) (p1 : Int) : Option Int :=
  sL3Pass_L0 p0 p1
def sLex_L0 (p0 : (List UInt8)) (x4 : (List GToken)) (x5 : Int) : Option ((List GToken) × Int) :=
  (sL3Pass p0 x5) >>= fun (y1 : Int) => if (decide (y1 < 0)) = true then (some (([] : List GToken), (IntKind.wrap .i64 ((IntKind.wrap .i64 (0 - y1)) - 1)))) else (if (decide ((p0.length : Int) ≤ y1)) = true then (some (x4, (-1))) else ((sL3One p0 y1) >>= fun (y2 : GToken × Int) => if (decide (y2.2 < 0)) = true then (some (([] : List GToken), y1)) else ((appG 32 x4 ([y2.1] : List GToken)) >>= fun (y3 : List GToken) => sLex_L0 p0 y3 y2.2)))
  partial_fixpoint
def sLex (p0 : (List UInt8)) : Option ((List GToken) × Int) :=
  if (decide (2000 < (p0.length : Int))) = true then (some (([] : List GToken), 2000)) else (sLex_L0 p0 ([] : List GToken) 0)
def sL4Quoted (p0 : GToken) : Option Bool :=
  (if (true && ((decide (p0.kind = 2)) == true)) = true then sPlainName p0.text else some default) >>= fun (y1 : Bool) => (some (if (decide (p0.kind = 2)) = true then (!y1) else false)) >>= fun (y2 : Bool) => some y2
def sL4Word (p0 : GToken) : Option Bool :=
  (some (if (decide (p0.kind = 1)) = true then true else (decide (p0.kind = 3)))) >>= fun (y1 : Bool) => (if ((true && (y1 == false)) && ((decide (p0.kind = 2)) == true)) = true then sPlainName p0.text else some default) >>= fun (y2 : Bool) => (if (true && (y1 == false)) = true then some (if (decide (p0.kind = 2)) = true then y2 else false) else some default) >>= fun (y3 : Bool) => (some (if y1 = true then true else y3)) >>= fun (y4 : Bool) => some y4
def sNeedsGap (p0 : GToken) (p1 : GToken) : Option Bool :=
  (sTokenOk p0) >>= fun (y1 : Bool) => (if (true && ((!y1) == false)) = true then sTokenOk p1 else some default) >>= fun (y2 : Bool) => (some (if (!y1) = true then true else (!y2))) >>= fun (y3 : Bool) => if y3 = true then (some false) else ((sL4Word p0) >>= fun (y4 : Bool) => (if (true && (y4 == true)) = true then sL4Word p1 else some default) >>= fun (y5 : Bool) => (some (if y4 = true then y5 else false)) >>= fun (y6 : Bool) => (if (true && (y6 == false)) = true then some (if (decide (p0.kind = 4)) = true then (decide (p1.kind = 4)) else false) else some default) >>= fun (y7 : Bool) => (some (if y6 = true then true else y7)) >>= fun (y8 : Bool) => (if (true && (y8 == false)) = true then sL4Quoted p0 else some default) >>= fun (y9 : Bool) => (if ((true && (y8 == false)) && (y9 == true)) = true then sL4Quoted p1 else some default) >>= fun (y10 : Bool) => (if (true && (y8 == false)) = true then some (if y9 = true then y10 else false) else some default) >>= fun (y11 : Bool) => (some (if y8 = true then true else y11)) >>= fun (y12 : Bool) => if y12 = true then (some true) else ((some (if (!decide (p0.kind = 5)) = true then true else (!decide (p1.kind = 5)))) >>= fun (y13 : Bool) => if y13 = true then (some false) else (if (decide (p0.text = [45])) = true then (some (decide (p1.text = [45]))) else (if (decide (p0.text = [47])) = true then (some (decide (p1.text = [42]))) else (if (decide (p0.text = [60])) = true then ((idxS p1.text 0) >>= fun (y14 : Int) => (if (true && ((decide (y14 = 61)) == false)) = true then idxS p1.text 0 else some default) >>= fun (y15 : Int) => (some (if (decide (y14 = 61)) = true then true else (decide (y15 = 62)))) >>= fun (y16 : Bool) => some y16) else (if (decide (p0.text = [62])) = true then ((idxS p1.text 0) >>= fun (y17 : Int) => some (decide (y17 = 61))) else (some false)))))))
mutual
def sL4Join_J1 (p0 : (List GToken)) (p1 : Bool) (x6 : Int) (x5_9 : (List Int)) : Option (List UInt8) :=
  (idx p0 x6) >>= fun (y11 : GToken) => (sTokenText y11) >>= fun (y12 : (List UInt8)) => (appG 1 x5_9 (toBytes y12)) >>= fun (y13 : List Int) => sL4Join_L0 p0 p1 y13 (IntKind.wrap .i64 (x6 + 1))
  partial_fixpoint
def sL4Join_L0 (p0 : (List GToken)) (p1 : Bool) (x5 : (List Int)) (x6 : Int) : Option (List UInt8) :=
  if (decide (x6 < (p0.length : Int))) = true then ((idx p0 x6) >>= fun (y1 : GToken) => (sTokenOk y1) >>= fun (y2 : Bool) => if (!y2) = true then (some []) else ((if ((true && ((decide (0 < x6)) == true)) && (p1 == false)) = true then idx p0 (IntKind.wrap .i64 (x6 - 1)) else some default) >>= fun (y3 : GToken) => (if ((true && ((decide (0 < x6)) == true)) && (p1 == false)) = true then idx p0 x6 else some default) >>= fun (y4 : GToken) => (if ((true && ((decide (0 < x6)) == true)) && (p1 == false)) = true then sNeedsGap y3 y4 else some default) >>= fun (y5 : Bool) => (if (true && ((decide (0 < x6)) == true)) = true then some (if p1 = true then true else y5) else some default) >>= fun (y6 : Bool) => (some (if (decide (0 < x6)) = true then y6 else false)) >>= fun (y7 : Bool) => if y7 = true then ((appG 1 x5 ([32] : List Int)) >>= fun (y8 : List Int) => sL4Join_J1 p0 p1 x6 y8) else (sL4Join_J1 p0 p1 x6 x5))) else (if (decide (2000 < (x5.length : Int))) = true then (some []) else ((ofBytes x5) >>= fun (y10 : (List UInt8)) => some y10))
  partial_fixpoint
end
def sL4Join (p0 : (List GToken)) (p1 : Bool) : Option (List UInt8) :=
  sL4Join_L0 p0 p1 ([] : List Int) 0
def sSpaced (p0 : (List GToken)) : Option (List UInt8) :=
  (sL4Join p0 false) >>= fun (y1 : (List UInt8)) => some y1
def sSqueeze (p0 : (List UInt8)) : Option ((List UInt8) × Int) :=
  (sLex p0) >>= fun (y1 : (List GToken) × Int) => if (decide (0 ≤ y1.2)) = true then (some ([], y1.2)) else ((sSpaced y1.1) >>= fun (y2 : (List UInt8)) => some (y2, (-1)))
def wBig (p0 : (List Int)) : Option Bool :=
  some (decide (1048576 < (p0.length : Int)))
def wFnSqueeze (p0 : (List Int)) : Option Bool :=
  (wBig p0) >>= fun (y1 : Bool) => if y1 = true then (some true) else ((sDrawSqueeze p0) >>= fun (y2 : (List UInt8)) => (iSqueeze y2) >>= fun (y3 : (List UInt8) × Int) => (sSqueeze y2) >>= fun (y4 : (List UInt8) × Int) => if (!decide (y3.2 = y4.2)) = true then (some false) else (if (decide (0 ≤ y3.2)) = true then (some (decide (y3.1 = []))) else ((iSqueeze y3.1) >>= fun (y5 : (List UInt8) × Int) => (some (if (decide (y5.2 = (-1))) = true then (decide (y5.1 = y3.1)) else false)) >>= fun (y6 : Bool) => (some (if y6 = true then (decide ((y3.1.length : Int) ≤ (IntKind.wrap .i64 ((y2.length : Int) + 20)))) else false)) >>= fun (y7 : Bool) => some y7)))
end Go.Ab
