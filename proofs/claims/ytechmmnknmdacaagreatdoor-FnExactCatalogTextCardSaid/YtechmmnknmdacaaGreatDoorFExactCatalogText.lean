/- The functions of the program, as Lean functions (printed by a program). -/
import Derived.Test.YtechmmnknmdacaaGreatDoorAbF1
namespace Go.Ab
open Go
structure GCol where
  name : (List UInt8)
  type : Int
instance : Inhabited GCol := ⟨(GCol.mk [] 0)⟩
structure GTable where
  name : (List UInt8)
  cols : (List GCol)
instance : Inhabited GTable := ⟨(GTable.mk [] [])⟩
structure GCatalog where
  tables : (List GTable)
instance : Inhabited GCatalog := ⟨(GCatalog.mk [])⟩
structure GToken where
  kind : Int
  text : (List UInt8)
  at_ : Int
instance : Inhabited GToken := ⟨(GToken.mk 0 [] 0)⟩
structure GPrinter where
  list : (List GToken)
  full : Bool
instance : Inhabited GPrinter := ⟨(GPrinter.mk [] false)⟩
def okGCol (x : GCol) : Prop := okS x.name ∧ okI x.type
def okGTable (x : GTable) : Prop := okS x.name ∧ (okL okGCol) x.cols
def okGCatalog (x : GCatalog) : Prop := (okL okGTable) x.tables
def okGToken (x : GToken) : Prop := okI x.kind ∧ okS x.text ∧ okI x.at_
def okGPrinter (x : GPrinter) : Prop := (okL okGToken) x.list ∧ okB x.full
def iColAt_1_x (p0 : GCol) (c0_0 : (List UInt8)) : Option Bool :=
  some (decide (p0.name = c0_0))
def gSlices_IndexFunc_Simpl_Col_impl_Col_iColAt_1_L0 (p0 : (List GCol)) (c0_0 : (List UInt8)) (x8 : Int) : Option Int :=
  if (decide (x8 < (p0.length : Int))) = true then ((idx p0 x8) >>= fun (y1 : GCol) => (iColAt_1_x y1 c0_0) >>= fun (y2 : Bool) => if y2 = true then (some x8) else (gSlices_IndexFunc_Simpl_Col_impl_Col_iColAt_1_L0 p0 c0_0 (IntKind.wrap .i64 (x8 + 1)))) else (some (-1))
  partial_fixpoint
def gSlices_IndexFunc_Simpl_Col_impl_Col_iColAt_1 (p0 : (List GCol)) (c0_0 : (List UInt8)) : Option Int :=
  gSlices_IndexFunc_Simpl_Col_impl_Col_iColAt_1_L0 p0 c0_0 0
def iColAt (p0 : GTable) (p1 : (List UInt8)) : Option Int :=
  (gSlices_IndexFunc_Simpl_Col_impl_Col_iColAt_1 p0.cols p1) >>= fun (y1 : Int) => some y1
def iNameOk (p0 : (List UInt8)) : Option Bool :=
  (some (if (decide (1 ≤ (p0.length : Int))) = true then (decide ((p0.length : Int) ≤ 20)) else false)) >>= fun (y1 : Bool) => some y1
def iIsTable_L0 (p0 : GTable) (x8 : Int) : Option Bool :=
  if (decide (x8 < (p0.cols.length : Int))) = true then ((idx p0.cols x8) >>= fun (y1 : GCol) => (iNameOk y1.name) >>= fun (y2 : Bool) => (some (if (!y2) = true then true else (decide (y1.type < 1)))) >>= fun (y3 : Bool) => (some (if y3 = true then true else (decide (3 < y1.type)))) >>= fun (y4 : Bool) => (if (true && (y4 == false)) = true then iColAt p0 y1.name else some default) >>= fun (y5 : Int) => (some (if y4 = true then true else (!decide (y5 = x8)))) >>= fun (y6 : Bool) => if y6 = true then (some false) else (iIsTable_L0 p0 (IntKind.wrap .i64 (x8 + 1)))) else ((iNameOk p0.name) >>= fun (y7 : Bool) => (some (if y7 = true then (decide (1 ≤ (p0.cols.length : Int))) else false)) >>= fun (y8 : Bool) => (some (if y8 = true then (decide ((p0.cols.length : Int) ≤ 4)) else false)) >>= fun (y9 : Bool) => some y9)
  partial_fixpoint
def iIsTable (p0 : GTable) : Option Bool :=
  iIsTable_L0 p0 0
def iTableAt_1_x (p0 : GTable) (c0_0 : (List UInt8)) : Option Bool :=
  some (decide (p0.name = c0_0))
def gSlices_IndexFunc_Simpl_Table_impl_Table_iTableAt_1_L0 (p0 : (List GTable)) (c0_0 : (List UInt8)) (x8 : Int) : Option Int :=
  if (decide (x8 < (p0.length : Int))) = true then ((idx p0 x8) >>= fun (y1 : GTable) => (iTableAt_1_x y1 c0_0) >>= fun (y2 : Bool) => if y2 = true then (some x8) else (gSlices_IndexFunc_Simpl_Table_impl_Table_iTableAt_1_L0 p0 c0_0 (IntKind.wrap .i64 (x8 + 1)))) else (some (-1))
  partial_fixpoint
def gSlices_IndexFunc_Simpl_Table_impl_Table_iTableAt_1 (p0 : (List GTable)) (c0_0 : (List UInt8)) : Option Int :=
  gSlices_IndexFunc_Simpl_Table_impl_Table_iTableAt_1_L0 p0 c0_0 0
def iTableAt (p0 : GCatalog) (p1 : (List UInt8)) : Option Int :=
  (gSlices_IndexFunc_Simpl_Table_impl_Table_iTableAt_1 p0.tables p1) >>= fun (y1 : Int) => some y1
def iCatalogOk_L0 (p0 : GCatalog) (x8 : Int) : Option Bool :=
  if (decide (x8 < (p0.tables.length : Int))) = true then ((idx p0.tables x8) >>= fun (y1 : GTable) => (iIsTable y1) >>= fun (y2 : Bool) => (if (true && ((!y2) == false)) = true then iTableAt p0 y1.name else some default) >>= fun (y3 : Int) => (some (if (!y2) = true then true else (!decide (y3 = x8)))) >>= fun (y4 : Bool) => if y4 = true then (some false) else (iCatalogOk_L0 p0 (IntKind.wrap .i64 (x8 + 1)))) else (some (decide ((p0.tables.length : Int) ≤ 4)))
  partial_fixpoint
def iCatalogOk (p0 : GCatalog) : Option Bool :=
  iCatalogOk_L0 p0 0
def iPrinter_put_x (p0 : GPrinter) (p1 : Int) (p2 : (List UInt8)) : Option GPrinter :=
  (appG 32 p0.list ([(GToken.mk p1 p2 0)] : List GToken)) >>= fun (y1 : List GToken) => some (GPrinter.mk y1 p0.full)
def iPrinter_sign_x (p0 : GPrinter) (p1 : (List UInt8)) : Option GPrinter :=
  (iPrinter_put_x p0 5 p1) >>= fun (y1 : GPrinter) => some y1
def iPrinter_comma_x (p0 : GPrinter) (p1 : Int) : Option GPrinter :=
  if (decide (0 < p1)) = true then ((iPrinter_sign_x p0 [44]) >>= fun (y1 : GPrinter) => some y1) else (some p0)
def iPrinter_name_x (p0 : GPrinter) (p1 : (List UInt8)) : Option GPrinter :=
  (iPrinter_put_x p0 2 p1) >>= fun (y1 : GPrinter) => some y1
def iTypeText (p0 : Int) : Option (List UInt8) :=
  (some (if (decide (p0 < 0)) = true then true else (decide (3 < p0)))) >>= fun (y1 : Bool) => if y1 = true then (some []) else ((idx ([[65, 78, 89], [73, 78, 84], [84, 69, 88, 84], [66, 79, 79, 76]] : List (List UInt8)) p0) >>= fun (y2 : (List UInt8)) => some y2)
mutual
def iCatalogTokens_L1 (p0 : GCatalog) (x13 : Int) (y1 : GTable) (x30 : Int) (b9_0_5 : (List GToken)) (b9_1_6 : Bool) : Option (List GToken) :=
  if (decide (x30 < (y1.cols.length : Int))) = true then ((idx y1.cols x30) >>= fun (y7 : GCol) => (iPrinter_comma_x (GPrinter.mk b9_0_5 b9_1_6) x30) >>= fun (y8 : GPrinter) => (iPrinter_name_x y8 y7.name) >>= fun (y9 : GPrinter) => (iTypeText y7.type) >>= fun (y10 : (List UInt8)) => (iPrinter_name_x y9 y10) >>= fun (y11 : GPrinter) => iCatalogTokens_L1 p0 x13 y1 (IntKind.wrap .i64 (x30 + 1)) y11.list y11.full) else ((iPrinter_sign_x (GPrinter.mk b9_0_5 b9_1_6) [41]) >>= fun (y12 : GPrinter) => iCatalogTokens_L0 p0 (IntKind.wrap .i64 (x13 + 1)) y12.list y12.full)
  partial_fixpoint
def iCatalogTokens_L0 (p0 : GCatalog) (x13 : Int) (b9_0 : (List GToken)) (b9_1 : Bool) : Option (List GToken) :=
  if (decide (x13 < (p0.tables.length : Int))) = true then ((idx p0.tables x13) >>= fun (y1 : GTable) => (iPrinter_comma_x (GPrinter.mk b9_0 b9_1) x13) >>= fun (y2 : GPrinter) => (iPrinter_name_x y2 y1.name) >>= fun (y3 : GPrinter) => (iPrinter_sign_x y3 [40]) >>= fun (y4 : GPrinter) => iCatalogTokens_L1 p0 x13 y1 0 y4.list y4.full) else (some b9_0)
  partial_fixpoint
end
def iCatalogTokens (p0 : GCatalog) : Option (List GToken) :=
  iCatalogTokens_L0 p0 0 ([] : List GToken) false
def gStrings_Builder_Len_x (c0_1 : (List Int)) : Option Int :=
  some (c0_1.length : Int)
def gStrings_Builder_String_x (c0_1 : (List Int)) : Option ((List UInt8) × (List Int)) :=
  (ofBytes c0_1) >>= fun (y : List UInt8) => some (y, c0_1)
def gStrings_Builder_copyCheck_x (c0_1 : (List Int)) : Option Unit :=
  some ()
def gStrings_Builder_WriteString_x (c0_1 : (List Int)) (p1 : (List UInt8)) : Option (Int × (List Int)) :=
  (gStrings_Builder_copyCheck_x c0_1) >>= fun (y1 : Unit) => (appG 1 c0_1 (toBytes p1)) >>= fun (y2 : List Int) => some ((p1.length : Int), y2)
def iIsDigit (p0 : Int) : Option Bool :=
  (some (if (decide (48 ≤ p0)) = true then (decide (p0 ≤ 57)) else false)) >>= fun (y1 : Bool) => some y1
def gSlices_Index_Sstring_string_L0 (p0 : (List (List UInt8))) (p1 : (List UInt8)) (x8 : Int) : Option Int :=
  if (decide (x8 < (p0.length : Int))) = true then ((idx p0 x8) >>= fun (y1 : (List UInt8)) => if (decide (p1 = y1)) = true then (some x8) else (gSlices_Index_Sstring_string_L0 p0 p1 (IntKind.wrap .i64 (x8 + 1)))) else (some (-1))
  partial_fixpoint
def gSlices_Index_Sstring_string (p0 : (List (List UInt8))) (p1 : (List UInt8)) : Option Int :=
  gSlices_Index_Sstring_string_L0 p0 p1 0
def iFold_J2 (x3 : (List Int)) : Option (List UInt8) :=
  (ofBytes x3) >>= fun (y3 : (List UInt8)) => some y3
mutual
def iFold_J1 (p0 : (List UInt8)) (x10 : Int) (b60050000_0 : (List Int)) : Option (List UInt8) :=
  iFold_L0 p0 (IntKind.wrap .i64 (x10 + 1)) b60050000_0
  partial_fixpoint
def iFold_L0 (p0 : (List UInt8)) (x10 : Int) (b60015000_0 : (List Int)) : Option (List UInt8) :=
  if (decide (x10 < ((toBytes p0).length : Int))) = true then ((idx b60015000_0 x10) >>= fun (y1 : Int) => (some (if (decide (97 ≤ y1)) = true then (decide (y1 ≤ 122)) else false)) >>= fun (y2 : Bool) => if y2 = true then (iFold_J1 p0 x10 (b60015000_0.set (x10).toNat (IntKind.wrap .u8 ((IntKind.wrap .u8 (y1 - 97)) + 65)))) else (iFold_J1 p0 x10 (b60015000_0.set (x10).toNat y1))) else (iFold_J2 b60015000_0)
  partial_fixpoint
end
def iFold (p0 : (List UInt8)) : Option (List UInt8) :=
  iFold_L0 p0 0 (toBytes p0)
def gStrings_Split (p0 : (List UInt8)) (p1 : (List UInt8)) : Option (List (List UInt8)) :=
  splitG p0 p1
def iKeywords : Option (List (List UInt8)) :=
  (gStrings_Split [83, 69, 76, 69, 67, 84, 32, 68, 73, 83, 84, 73, 78, 67, 84, 32, 70, 82, 79, 77, 32, 74, 79, 73, 78, 32, 79, 78, 32, 87, 72, 69, 82, 69, 32, 79, 82, 68, 69, 82, 32, 66, 89, 32, 65, 83, 67, 32, 68, 69, 83, 67, 32, 76, 73, 77, 73, 84, 32, 65, 83, 32, 65, 78, 68, 32, 79, 82, 32, 78, 79, 84, 32, 73, 83, 32, 73, 78, 32, 66, 69, 84, 87, 69, 69, 78, 32, 69, 88, 73, 83, 84, 83, 32, 78, 85, 76, 76, 32, 84, 82, 85, 69, 32, 70, 65, 76, 83, 69, 32, 73, 78, 83, 69, 82, 84, 32, 73, 78, 84, 79, 32, 86, 65, 76, 85, 69, 83, 32, 85, 80, 68, 65, 84, 69, 32, 83, 69, 84, 32, 68, 69, 76, 69, 84, 69] [32]) >>= fun (y1 : (List (List UInt8))) => some y1
def iKeyOf (p0 : (List UInt8)) : Option Int :=
  (iKeywords) >>= fun (y1 : (List (List UInt8))) => (iFold p0) >>= fun (y2 : (List UInt8)) => (gSlices_Index_Sstring_string y1 y2) >>= fun (y3 : Int) => some (IntKind.wrap .i64 (y3 + 1))
def iIsStart (p0 : Int) : Option Bool :=
  (some (if (decide (97 ≤ p0)) = true then (decide (p0 ≤ 122)) else false)) >>= fun (y1 : Bool) => (if (true && (y1 == false)) = true then some (if (decide (65 ≤ p0)) = true then (decide (p0 ≤ 90)) else false) else some default) >>= fun (y2 : Bool) => (some (if y1 = true then true else y2)) >>= fun (y3 : Bool) => (some (if y3 = true then true else (decide (p0 = 95)))) >>= fun (y4 : Bool) => some y4
def iIsPart (p0 : Int) : Option Bool :=
  (iIsStart p0) >>= fun (y1 : Bool) => (if (true && (y1 == false)) = true then iIsDigit p0 else some default) >>= fun (y2 : Bool) => (some (if y1 = true then true else y2)) >>= fun (y3 : Bool) => some y3
def iPlainName_L0 (p0 : (List UInt8)) (x19 : Int) : Option Bool :=
  if (decide (x19 < (p0.length : Int))) = true then ((idxS p0 x19) >>= fun (y7 : Int) => (iIsPart y7) >>= fun (y8 : Bool) => if (!y8) = true then (some false) else (iPlainName_L0 p0 (IntKind.wrap .i64 (x19 + 1)))) else (some true)
  partial_fixpoint
def iPlainName (p0 : (List UInt8)) : Option Bool :=
  (iNameOk p0) >>= fun (y1 : Bool) => (if (true && ((!y1) == false)) = true then idxS p0 0 else some default) >>= fun (y2 : Int) => (if (true && ((!y1) == false)) = true then iIsDigit y2 else some default) >>= fun (y3 : Bool) => (some (if (!y1) = true then true else y3)) >>= fun (y4 : Bool) => (if (true && (y4 == false)) = true then iKeyOf p0 else some default) >>= fun (y5 : Int) => (some (if y4 = true then true else (!decide (y5 = 0)))) >>= fun (y6 : Bool) => if y6 = true then (some false) else (iPlainName_L0 p0 0)
def gStrings_ReplaceAll (p0 : (List UInt8)) (p1 : (List UInt8)) (p2 : (List UInt8)) : Option (List UInt8) :=
  replG p0 p1 p2
def iQuoted (p0 : (List UInt8)) (p1 : (List UInt8)) : Option (List UInt8) :=
  (catS p1 p1) >>= fun (y1 : (List UInt8)) => (gStrings_ReplaceAll p0 p1 y1) >>= fun (y2 : (List UInt8)) => (catS p1 y2) >>= fun (y3 : (List UInt8)) => (catS y3 p1) >>= fun (y4 : (List UInt8)) => some y4
def iNameText (p0 : (List UInt8)) : Option (List UInt8) :=
  (iNameOk p0) >>= fun (y1 : Bool) => if (!y1) = true then (some []) else ((iPlainName p0) >>= fun (y2 : Bool) => if y2 = true then (some p0) else ((iQuoted p0 [34]) >>= fun (y3 : (List UInt8)) => some y3))
def iQuoteText (p0 : (List UInt8)) : Option (List UInt8) :=
  (iQuoted p0 [39]) >>= fun (y1 : (List UInt8)) => some y1
def iNumber (p0 : (List UInt8)) : Option (Int × Bool) :=
  numO p0
def gSlices_Contains_Sstring_string (p0 : (List (List UInt8))) (p1 : (List UInt8)) : Option Bool :=
  (gSlices_Index_Sstring_string p0 p1) >>= fun (y1 : Int) => some (decide (0 ≤ y1))
def iSigns : Option (List (List UInt8)) :=
  some ([[40], [41], [44], [46], [42], [43], [45], [47], [37], [61], [60, 62], [60], [60, 61], [62], [62, 61], [124, 124]] : List (List UInt8))
def iSignOk (p0 : (List UInt8)) : Option Bool :=
  (iSigns) >>= fun (y1 : (List (List UInt8))) => (gSlices_Contains_Sstring_string y1 p0) >>= fun (y2 : Bool) => some y2
def iTokenOk (p0 : GToken) : Option Bool :=
  if (decide (p0.kind = 1)) = true then ((iKeyOf p0.text) >>= fun (y1 : Int) => (if (true && ((!decide (y1 = 0)) == true)) = true then iFold p0.text else some default) >>= fun (y2 : (List UInt8)) => (some (if (!decide (y1 = 0)) = true then (decide (y2 = p0.text)) else false)) >>= fun (y3 : Bool) => some y3) else (if (decide (p0.kind = 2)) = true then ((iNameOk p0.text) >>= fun (y4 : Bool) => some y4) else (if (decide (p0.kind = 3)) = true then ((iNumber p0.text) >>= fun (y5 : Int × Bool) => some y5.2) else (if (decide (p0.kind = 4)) = true then (some (decide ((p0.text.length : Int) ≤ 40))) else (if (decide (p0.kind = 5)) = true then ((iSignOk p0.text) >>= fun (y6 : Bool) => some y6) else (some false)))))
def iTokenText (p0 : GToken) : Option (List UInt8) :=
  (iTokenOk p0) >>= fun (y1 : Bool) => if (!y1) = true then (some []) else (if (decide (p0.kind = 2)) = true then ((iNameText p0.text) >>= fun (y2 : (List UInt8)) => some y2) else (if (decide (p0.kind = 4)) = true then ((iQuoteText p0.text) >>= fun (y3 : (List UInt8)) => some y3) else (some p0.text)))
def iIsQuotedName (p0 : GToken) : Option Bool :=
  (if (true && ((decide (p0.kind = 2)) == true)) = true then iPlainName p0.text else some default) >>= fun (y1 : Bool) => (some (if (decide (p0.kind = 2)) = true then (!y1) else false)) >>= fun (y2 : Bool) => some y2
def iIsWord (p0 : GToken) : Option Bool :=
  (some (if (decide (p0.kind = 1)) = true then true else (decide (p0.kind = 3)))) >>= fun (y1 : Bool) => (if ((true && (y1 == false)) && ((decide (p0.kind = 2)) == true)) = true then iPlainName p0.text else some default) >>= fun (y2 : Bool) => (if (true && (y1 == false)) = true then some (if (decide (p0.kind = 2)) = true then y2 else false) else some default) >>= fun (y3 : Bool) => (some (if y1 = true then true else y3)) >>= fun (y4 : Bool) => some y4
def iNeedsGap (p0 : GToken) (p1 : GToken) : Option Bool :=
  (iTokenOk p0) >>= fun (y1 : Bool) => (if (true && ((!y1) == false)) = true then iTokenOk p1 else some default) >>= fun (y2 : Bool) => (some (if (!y1) = true then true else (!y2))) >>= fun (y3 : Bool) => if y3 = true then (some false) else ((iIsWord p0) >>= fun (y4 : Bool) => (if (true && (y4 == true)) = true then iIsWord p1 else some default) >>= fun (y5 : Bool) => (some (if y4 = true then y5 else false)) >>= fun (y6 : Bool) => (if (true && (y6 == false)) = true then iIsQuotedName p0 else some default) >>= fun (y7 : Bool) => (if ((true && (y6 == false)) && (y7 == true)) = true then iIsQuotedName p1 else some default) >>= fun (y8 : Bool) => (if (true && (y6 == false)) = true then some (if y7 = true then y8 else false) else some default) >>= fun (y9 : Bool) => (some (if y6 = true then true else y9)) >>= fun (y10 : Bool) => (if (true && (y10 == false)) = true then some (if (decide (p0.kind = 4)) = true then (decide (p1.kind = 4)) else false) else some default) >>= fun (y11 : Bool) => (some (if y10 = true then true else y11)) >>= fun (y12 : Bool) => if y12 = true then (some true) else ((some (if (!decide (p0.kind = 5)) = true then true else (!decide (p1.kind = 5)))) >>= fun (y13 : Bool) => if y13 = true then (some false) else (if (decide (p0.text = [45])) = true then (some (decide (p1.text = [45]))) else (if (decide (p0.text = [47])) = true then (some (decide (p1.text = [42]))) else (if (decide (p0.text = [60])) = true then ((idxS p1.text 0) >>= fun (y14 : Int) => (if (true && ((decide (y14 = 61)) == false)) = true then idxS p1.text 0 else some default) >>= fun (y15 : Int) => (some (if (decide (y14 = 61)) = true then true else (decide (y15 = 62)))) >>= fun (y16 : Bool) => some y16) else (if (decide (p0.text = [62])) = true then ((idxS p1.text 0) >>= fun (y17 : Int) => some (decide (y17 = 61))) else (some false)))))))
mutual
def iJoined_iNeedsGap_J1 (p0 : (List GToken)) (x11 : Int) (y1 : GToken) (b5_1_7 : (List Int)) : Option (List UInt8) :=
  (iTokenText y1) >>= fun (y10 : (List UInt8)) => (gStrings_Builder_WriteString_x b5_1_7 y10) >>= fun (y11 : Int × (List Int)) => iJoined_iNeedsGap_L0 p0 (IntKind.wrap .i64 (x11 + 1)) y11.2
  partial_fixpoint
def iJoined_iNeedsGap_L0 (p0 : (List GToken)) (x11 : Int) (b5_1 : (List Int)) : Option (List UInt8) :=
  if (decide (x11 < (p0.length : Int))) = true then ((idx p0 x11) >>= fun (y1 : GToken) => (iTokenOk y1) >>= fun (y2 : Bool) => if (!y2) = true then (some []) else ((if (true && ((decide (0 < x11)) == true)) = true then idx p0 (IntKind.wrap .i64 (x11 - 1)) else some default) >>= fun (y3 : GToken) => (if (true && ((decide (0 < x11)) == true)) = true then iNeedsGap y3 y1 else some default) >>= fun (y4 : Bool) => (some (if (decide (0 < x11)) = true then y4 else false)) >>= fun (y5 : Bool) => if y5 = true then ((gStrings_Builder_WriteString_x b5_1 [32]) >>= fun (y6 : Int × (List Int)) => iJoined_iNeedsGap_J1 p0 x11 y1 y6.2) else (iJoined_iNeedsGap_J1 p0 x11 y1 b5_1))) else ((gStrings_Builder_Len_x b5_1) >>= fun (y8 : Int) => if (decide (2000 < y8)) = true then (some []) else ((gStrings_Builder_String_x b5_1) >>= fun (y9 : (List UInt8) × (List Int)) => some y9.1))
  partial_fixpoint
end
def iJoined_iNeedsGap (p0 : (List GToken)) : Option (List UInt8) :=
  iJoined_iNeedsGap_L0 p0 0 ([] : List Int)
def iSpaced (p0 : (List GToken)) : Option (List UInt8) :=
  (iJoined_iNeedsGap p0) >>= fun (y1 : (List UInt8)) => some y1
def iCatalogText (p0 : GCatalog) : Option (List UInt8) :=
  (iCatalogOk p0) >>= fun (y1 : Bool) => if (!y1) = true then (some []) else ((iCatalogTokens p0) >>= fun (y2 : (List GToken)) => (iSpaced y2) >>= fun (y3 : (List UInt8)) => some y3)
def sColAt_L0 (p1 : (List UInt8)) (p0 : GTable) (x5 : Int) : Option Int :=
  if (decide (x5 < (p0.cols.length : Int))) = true then ((idx p0.cols x5) >>= fun (y1 : GCol) => if (decide (y1.name = p1)) = true then (some x5) else (sColAt_L0 p1 p0 (IntKind.wrap .i64 (x5 + 1)))) else (some (-1))
  partial_fixpoint
def sColAt (p0 : GTable) (p1 : (List UInt8)) : Option Int :=
  sColAt_L0 p1 p0 0
def sL1In (p0 : Int) (p1 : Int) (p2 : Int) : Option Bool :=
  (some (if (decide (p1 ≤ p0)) = true then (decide (p0 ≤ p2)) else false)) >>= fun (y1 : Bool) => some y1
def sNameOk (p0 : (List UInt8)) : Option Bool :=
  (sL1In (p0.length : Int) 1 20) >>= fun (y1 : Bool) => some y1
def sTableAt_L0 (p1 : (List UInt8)) (p0 : GCatalog) (x5 : Int) : Option Int :=
  if (decide (x5 < (p0.tables.length : Int))) = true then ((idx p0.tables x5) >>= fun (y1 : GTable) => if (decide (y1.name = p1)) = true then (some x5) else (sTableAt_L0 p1 p0 (IntKind.wrap .i64 (x5 + 1)))) else (some (-1))
  partial_fixpoint
def sTableAt (p0 : GCatalog) (p1 : (List UInt8)) : Option Int :=
  sTableAt_L0 p1 p0 0
mutual
def sCatalogOk_L1 (x3 : Int) (p0 : GCatalog) (y1 : GTable) (x5 : Int) : Option Bool :=
  if (decide (x5 < (y1.cols.length : Int))) = true then ((idx y1.cols x5) >>= fun (y7 : GCol) => (sNameOk y7.name) >>= fun (y8 : Bool) => (if (true && ((!y8) == false)) = true then idx y1.cols x5 else some default) >>= fun (y9 : GCol) => (if (true && ((!y8) == false)) = true then sColAt y1 y9.name else some default) >>= fun (y10 : Int) => (some (if (!y8) = true then true else (!decide (y10 = x5)))) >>= fun (y11 : Bool) => (if (true && (y11 == false)) = true then idx y1.cols x5 else some default) >>= fun (y12 : GCol) => (if (true && (y11 == false)) = true then sL1In y12.type 1 3 else some default) >>= fun (y13 : Bool) => (some (if y11 = true then true else (!y13))) >>= fun (y14 : Bool) => if y14 = true then (some false) else (sCatalogOk_L1 x3 p0 y1 (IntKind.wrap .i64 (x5 + 1)))) else (sCatalogOk_L0 p0 (IntKind.wrap .i64 (x3 + 1)))
  partial_fixpoint
def sCatalogOk_L0 (p0 : GCatalog) (x3 : Int) : Option Bool :=
  if (decide (x3 < (p0.tables.length : Int))) = true then ((idx p0.tables x3) >>= fun (y1 : GTable) => (sNameOk y1.name) >>= fun (y2 : Bool) => (if (true && ((!y2) == false)) = true then sTableAt p0 y1.name else some default) >>= fun (y3 : Int) => (some (if (!y2) = true then true else (!decide (y3 = x3)))) >>= fun (y4 : Bool) => (if (true && (y4 == false)) = true then sL1In (y1.cols.length : Int) 1 4 else some default) >>= fun (y5 : Bool) => (some (if y4 = true then true else (!y5))) >>= fun (y6 : Bool) => if y6 = true then (some false) else (sCatalogOk_L1 x3 p0 y1 0)) else (some true)
  partial_fixpoint
end
def sCatalogOk (p0 : GCatalog) : Option Bool :=
  if (decide (4 < (p0.tables.length : Int))) = true then (some false) else (sCatalogOk_L0 p0 0)
def sL10Sign (p0 : (List UInt8)) : Option GToken :=
  some (GToken.mk 5 p0 0)
def sL10Name (p0 : (List UInt8)) : Option GToken :=
  some (GToken.mk 2 p0 0)
def sTypeText (p0 : Int) : Option (List UInt8) :=
  (sL1In p0 0 3) >>= fun (y1 : Bool) => if (!y1) = true then (some []) else ((idx ([[65, 78, 89], [73, 78, 84], [84, 69, 88, 84], [66, 79, 79, 76]] : List (List UInt8)) p0) >>= fun (y2 : (List UInt8)) => some y2)
mutual
def sL16Tokens_J3 (x4 : Int) (x5 : Int) (p0 : GCatalog) (x3_12 : (List GToken)) : Option (List GToken) :=
  (idx p0.tables x4) >>= fun (y15 : GTable) => (idx y15.cols x5) >>= fun (y16 : GCol) => (sL10Name y16.name) >>= fun (y17 : GToken) => (idx p0.tables x4) >>= fun (y18 : GTable) => (idx y18.cols x5) >>= fun (y19 : GCol) => (sTypeText y19.type) >>= fun (y20 : (List UInt8)) => (sL10Name y20) >>= fun (y21 : GToken) => (appG 32 x3_12 ([y17, y21] : List GToken)) >>= fun (y22 : List GToken) => sL16Tokens_L2 x4 p0 y22 (IntKind.wrap .i64 (x5 + 1))
  partial_fixpoint
def sL16Tokens_L2 (x4 : Int) (p0 : GCatalog) (x3_8 : (List GToken)) (x5 : Int) : Option (List GToken) :=
  (idx p0.tables x4) >>= fun (y9 : GTable) => if (decide (x5 < (y9.cols.length : Int))) = true then (if (decide (0 < x5)) = true then ((sL10Sign [44]) >>= fun (y10 : GToken) => (appG 32 x3_8 ([y10] : List GToken)) >>= fun (y11 : List GToken) => sL16Tokens_J3 x4 x5 p0 y11) else (sL16Tokens_J3 x4 x5 p0 x3_8)) else ((sL10Sign [41]) >>= fun (y13 : GToken) => (appG 32 x3_8 ([y13] : List GToken)) >>= fun (y14 : List GToken) => sL16Tokens_L0 p0 y14 (IntKind.wrap .i64 (x4 + 1)))
  partial_fixpoint
def sL16Tokens_J1 (x4 : Int) (p0 : GCatalog) (x3_3 : (List GToken)) : Option (List GToken) :=
  (idx p0.tables x4) >>= fun (y4 : GTable) => (sL10Name y4.name) >>= fun (y5 : GToken) => (sL10Sign [40]) >>= fun (y6 : GToken) => (appG 32 x3_3 ([y5, y6] : List GToken)) >>= fun (y7 : List GToken) => sL16Tokens_L2 x4 p0 y7 0
  partial_fixpoint
def sL16Tokens_L0 (p0 : GCatalog) (x3 : (List GToken)) (x4 : Int) : Option (List GToken) :=
  if (decide (x4 < (p0.tables.length : Int))) = true then (if (decide (0 < x4)) = true then ((sL10Sign [44]) >>= fun (y1 : GToken) => (appG 32 x3 ([y1] : List GToken)) >>= fun (y2 : List GToken) => sL16Tokens_J1 x4 p0 y2) else (sL16Tokens_J1 x4 p0 x3)) else (some x3)
  partial_fixpoint
end
def sL16Tokens (p0 : GCatalog) : Option (List GToken) :=
  sL16Tokens_L0 p0 ([] : List GToken) 0
mutual
def sL2Quote_J1 (p0 : (List UInt8)) (p1 : Int) (x6 : Int) (x5_3 : (List Int)) : Option (List UInt8) :=
  (idxS p0 x6) >>= fun (y6 : Int) => (appG 1 x5_3 ([y6] : List Int)) >>= fun (y7 : List Int) => sL2Quote_L0 p0 p1 y7 (IntKind.wrap .i64 (x6 + 1))
  partial_fixpoint
def sL2Quote_L0 (p0 : (List UInt8)) (p1 : Int) (x5 : (List Int)) (x6 : Int) : Option (List UInt8) :=
  if (decide (x6 < (p0.length : Int))) = true then ((idxS p0 x6) >>= fun (y1 : Int) => if (decide (y1 = p1)) = true then ((appG 1 x5 ([p1] : List Int)) >>= fun (y2 : List Int) => sL2Quote_J1 p0 p1 x6 y2) else (sL2Quote_J1 p0 p1 x6 x5)) else ((appG 1 x5 ([p1] : List Int)) >>= fun (y4 : List Int) => (ofBytes y4) >>= fun (y5 : (List UInt8)) => some y5)
  partial_fixpoint
end
def sL2Quote (p0 : (List UInt8)) (p1 : Int) : Option (List UInt8) :=
  sL2Quote_L0 p0 p1 ([p1] : List Int) 0
def sFold_J2 (x3 : (List Int)) : Option (List UInt8) :=
  (ofBytes x3) >>= fun (y3 : (List UInt8)) => some y3
mutual
def sFold_J1 (x4 : Int) (b60052000_0 : (List Int)) : Option (List UInt8) :=
  sFold_L0 (IntKind.wrap .i64 (x4 + 1)) b60052000_0
  partial_fixpoint
def sFold_L0 (x4 : Int) (b60013000_0 : (List Int)) : Option (List UInt8) :=
  if (decide (x4 < (b60013000_0.length : Int))) = true then ((idx b60013000_0 x4) >>= fun (y1 : Int) => (some (if (decide (97 ≤ y1)) = true then (decide (y1 ≤ 122)) else false)) >>= fun (y2 : Bool) => if y2 = true then (sFold_J1 x4 (b60013000_0.set (x4).toNat (IntKind.wrap .u8 (y1 - 32)))) else (sFold_J1 x4 (b60013000_0.set (x4).toNat y1))) else (sFold_J2 b60013000_0)
  partial_fixpoint
end
def sFold (p0 : (List UInt8)) : Option (List UInt8) :=
  sFold_L0 0 (toBytes p0)
def sKeyOf_L0 (y1 : (List UInt8)) (y2 : (List (List UInt8))) (x5 : Int) : Option Int :=
  if (decide (x5 < (y2.length : Int))) = true then ((idx y2 x5) >>= fun (y3 : (List UInt8)) => if (decide (y3 = y1)) = true then (some x5) else (sKeyOf_L0 y1 y2 (IntKind.wrap .i64 (x5 + 1)))) else (some 0)
  partial_fixpoint
def sL2Words : Option (List (List UInt8)) :=
  some ([[], [83, 69, 76, 69, 67, 84], [68, 73, 83, 84, 73, 78, 67, 84], [70, 82, 79, 77], [74, 79, 73, 78], [79, 78], [87, 72, 69, 82, 69], [79, 82, 68, 69, 82], [66, 89], [65, 83, 67], [68, 69, 83, 67], [76, 73, 77, 73, 84], [65, 83], [65, 78, 68], [79, 82], [78, 79, 84], [73, 83], [73, 78], [66, 69, 84, 87, 69, 69, 78], [69, 88, 73, 83, 84, 83], [78, 85, 76, 76], [84, 82, 85, 69], [70, 65, 76, 83, 69], [73, 78, 83, 69, 82, 84], [73, 78, 84, 79], [86, 65, 76, 85, 69, 83], [85, 80, 68, 65, 84, 69], [83, 69, 84], [68, 69, 76, 69, 84, 69]] : List (List UInt8))
def sKeyOf (p0 : (List UInt8)) : Option Int :=
  if (decide (8 < (p0.length : Int))) = true then (some 0) else ((sFold p0) >>= fun (y1 : (List UInt8)) => (sL2Words) >>= fun (y2 : (List (List UInt8))) => sKeyOf_L0 y1 y2 1)
def sL2Figure (p0 : Int) : Option Bool :=
  (some (if (decide (48 ≤ p0)) = true then (decide (p0 ≤ 57)) else false)) >>= fun (y1 : Bool) => some y1
def sL2Letter (p0 : Int) : Option Bool :=
  (some (if (decide (97 ≤ p0)) = true then (decide (p0 ≤ 122)) else false)) >>= fun (y1 : Bool) => (if (true && (y1 == false)) = true then some (if (decide (65 ≤ p0)) = true then (decide (p0 ≤ 90)) else false) else some default) >>= fun (y2 : Bool) => (some (if y1 = true then true else y2)) >>= fun (y3 : Bool) => (some (if y3 = true then true else (decide (p0 = 95)))) >>= fun (y4 : Bool) => some y4
def sPlainName_L0 (p0 : (List UInt8)) (x3 : Int) : Option Bool :=
  if (decide (x3 < (p0.length : Int))) = true then ((idxS p0 x3) >>= fun (y7 : Int) => (sL2Letter y7) >>= fun (y8 : Bool) => (if (true && ((!y8) == true)) = true then idxS p0 x3 else some default) >>= fun (y9 : Int) => (if (true && ((!y8) == true)) = true then sL2Figure y9 else some default) >>= fun (y10 : Bool) => (some (if (!y8) = true then (!y10) else false)) >>= fun (y11 : Bool) => if y11 = true then (some false) else (sPlainName_L0 p0 (IntKind.wrap .i64 (x3 + 1)))) else (some true)
  partial_fixpoint
def sPlainName (p0 : (List UInt8)) : Option Bool :=
  (sNameOk p0) >>= fun (y1 : Bool) => (if (true && ((!y1) == false)) = true then idxS p0 0 else some default) >>= fun (y2 : Int) => (if (true && ((!y1) == false)) = true then sL2Figure y2 else some default) >>= fun (y3 : Bool) => (some (if (!y1) = true then true else y3)) >>= fun (y4 : Bool) => (if (true && (y4 == false)) = true then sKeyOf p0 else some default) >>= fun (y5 : Int) => (some (if y4 = true then true else (decide (0 < y5)))) >>= fun (y6 : Bool) => if y6 = true then (some false) else (sPlainName_L0 p0 0)
def sNameText (p0 : (List UInt8)) : Option (List UInt8) :=
  (sNameOk p0) >>= fun (y1 : Bool) => if (!y1) = true then (some []) else ((sPlainName p0) >>= fun (y2 : Bool) => if y2 = true then (some p0) else ((sL2Quote p0 34) >>= fun (y3 : (List UInt8)) => some y3))
def sQuoteText (p0 : (List UInt8)) : Option (List UInt8) :=
  (sL2Quote p0 39) >>= fun (y1 : (List UInt8)) => some y1
mutual
def sDigits_J1 (x0 : Int) (p0 : Int) (x4 : (List UInt8)) (x5 : Int) : Option (List UInt8) :=
  (ofBytes ([(IntKind.wrap .u8 (IntKind.wrap .i64 (48 + x5)))] : List Int)) >>= fun (y2 : (List UInt8)) => (catS y2 x4) >>= fun (y3 : (List UInt8)) => sDigits_L0 p0 (IntKind.wrap .i64 (Int.tdiv x0 10)) y3
  partial_fixpoint
def sDigits_L0 (p0 : Int) (x0 : Int) (x4 : (List UInt8)) : Option (List UInt8) :=
  if (!decide (x0 = 0)) = true then (if (decide ((Int.tmod x0 10) < 0)) = true then (sDigits_J1 x0 p0 x4 (IntKind.wrap .i64 (0 - (Int.tmod x0 10)))) else (sDigits_J1 x0 p0 x4 (Int.tmod x0 10))) else (if (decide (p0 < 0)) = true then ((catS [45] x4) >>= fun (y1 : (List UInt8)) => some y1) else (some x4))
  partial_fixpoint
end
def sDigits (p0 : Int) : Option (List UInt8) :=
  if (decide (p0 = 0)) = true then (some [48]) else (sDigits_L0 p0 p0 [])
def sNumber_L0 (p0 : (List UInt8)) (x4 : Int) (x5 : Int) : Option (Int × Bool) :=
  if (decide (x5 < (p0.length : Int))) = true then ((idxS p0 x5) >>= fun (y2 : Int) => (if (true && ((decide (y2 < 48)) == false)) = true then idxS p0 x5 else some default) >>= fun (y3 : Int) => (some (if (decide (y2 < 48)) = true then true else (decide (57 < y3)))) >>= fun (y4 : Bool) => if y4 = true then (some (0, false)) else ((idxS p0 x5) >>= fun (y5 : Int) => if (decide ((IntKind.wrap .i64 (Int.tdiv (IntKind.wrap .i64 (9223372036854775807 - (IntKind.wrap .i64 ((IntKind.wrap .i64 y5) - 48)))) 10)) < x4)) = true then (some (0, false)) else (sNumber_L0 p0 (IntKind.wrap .i64 ((IntKind.wrap .i64 (10 * x4)) + (IntKind.wrap .i64 ((IntKind.wrap .i64 y5) - 48)))) (IntKind.wrap .i64 (x5 + 1))))) else ((sDigits x4) >>= fun (y6 : (List UInt8)) => if (!decide (y6 = p0)) = true then (some (0, false)) else (some (x4, true)))
  partial_fixpoint
def sNumber (p0 : (List UInt8)) : Option (Int × Bool) :=
  (some (if (decide ((p0.length : Int) < 1)) = true then true else (decide (19 < (p0.length : Int))))) >>= fun (y1 : Bool) => if y1 = true then (some (0, false)) else (sNumber_L0 p0 0 0)
def sSignOk_J0 (x4 : Bool) : Option Bool :=
  if x4 = true then (some true) else (some false)
def sSignOk (p0 : (List UInt8)) : Option Bool :=
  if (decide (p0 = [40])) = true then (sSignOk_J0 (decide (p0 = [40]))) else (if (decide (p0 = [41])) = true then (sSignOk_J0 (decide (p0 = [41]))) else (if (decide (p0 = [44])) = true then (sSignOk_J0 (decide (p0 = [44]))) else (if (decide (p0 = [46])) = true then (sSignOk_J0 (decide (p0 = [46]))) else (if (decide (p0 = [42])) = true then (sSignOk_J0 (decide (p0 = [42]))) else (if (decide (p0 = [43])) = true then (sSignOk_J0 (decide (p0 = [43]))) else (if (decide (p0 = [45])) = true then (sSignOk_J0 (decide (p0 = [45]))) else (if (decide (p0 = [47])) = true then (sSignOk_J0 (decide (p0 = [47]))) else (if (decide (p0 = [37])) = true then (sSignOk_J0 (decide (p0 = [37]))) else (if (decide (p0 = [61])) = true then (sSignOk_J0 (decide (p0 = [61]))) else (if (decide (p0 = [60, 62])) = true then (sSignOk_J0 (decide (p0 = [60, 62]))) else (if (decide (p0 = [60])) = true then (sSignOk_J0 (decide (p0 = [60]))) else (if (decide (p0 = [60, 61])) = true then (sSignOk_J0 (decide (p0 = [60, 61]))) else (if (decide (p0 = [62])) = true then (sSignOk_J0 (decide (p0 = [62]))) else (if (decide (p0 = [62, 61])) = true then (sSignOk_J0 (decide (p0 = [62, 61]))) else (sSignOk_J0 (decide (p0 = [124, 124])))))))))))))))))
def sTokenOk (p0 : GToken) : Option Bool :=
  if (decide (p0.kind = 1)) = true then ((sKeyOf p0.text) >>= fun (y1 : Int) => (if (true && ((decide (0 < y1)) == true)) = true then sFold p0.text else some default) >>= fun (y2 : (List UInt8)) => (some (if (decide (0 < y1)) = true then (decide (y2 = p0.text)) else false)) >>= fun (y3 : Bool) => some y3) else (if (decide (p0.kind = 2)) = true then ((sNameOk p0.text) >>= fun (y4 : Bool) => some y4) else (if (decide (p0.kind = 3)) = true then ((sNumber p0.text) >>= fun (y5 : Int × Bool) => some y5.2) else (if (decide (p0.kind = 4)) = true then (some (decide ((p0.text.length : Int) ≤ 40))) else (if (decide (p0.kind = 5)) = true then ((sSignOk p0.text) >>= fun (y6 : Bool) => some y6) else (some false)))))
def sTokenText (p0 : GToken) : Option (List UInt8) :=
  (sTokenOk p0) >>= fun (y1 : Bool) => if (!y1) = true then (some []) else (if (decide (p0.kind = 2)) = true then ((sNameText p0.text) >>= fun (y2 : (List UInt8)) => some y2) else (if (decide (p0.kind = 4)) = true then ((sQuoteText p0.text) >>= fun (y3 : (List UInt8)) => some y3) else (some p0.text)))
def sL4Quoted (p0 : GToken) : Option Bool :=
  (if (true && ((decide (p0.kind = 2)) == true)) = true then sPlainName p0.text else some default) >>= fun (y1 : Bool) => (some (if (decide (p0.kind = 2)) = true then (!y1) else false)) >>= fun (y2 : Bool) => some y2
def sL4Word (p0 : GToken) : Option Bool :=
  (some (if (decide (p0.kind = 1)) = true then true else (decide (p0.kind = 3)))) >>= fun (y1 : Bool) => (if ((true && (y1 == false)) && ((decide (p0.kind = 2)) == true)) = true then sPlainName p0.text else some default) >>= fun (y2 : Bool) => (if (true && (y1 == false)) = true then some (if (decide (p0.kind = 2)) = true then y2 else false) else some default) >>= fun (y3 : Bool) => (some (if y1 = true then true else y3)) >>= fun (y4 : Bool) => some y4
def sNeedsGap (p0 : GToken) (p1 : GToken) : Option Bool :=
  (sTokenOk p0) >>= fun (y1 : Bool) => (if (true && ((!y1) == false)) = true then sTokenOk p1 else some default) >>= fun (y2 : Bool) => (some (if (!y1) = true then true else (!y2))) >>= fun (y3 : Bool) => if y3 = true then (some false) else ((sL4Word p0) >>= fun (y4 : Bool) => (if (true && (y4 == true)) = true then sL4Word p1 else some default) >>= fun (y5 : Bool) => (some (if y4 = true then y5 else false)) >>= fun (y6 : Bool) => (if (true && (y6 == false)) = true then some (if (decide (p0.kind = 4)) = true then (decide (p1.kind = 4)) else false) else some default) >>= fun (y7 : Bool) => (some (if y6 = true then true else y7)) >>= fun (y8 : Bool) => (if (true && (y8 == false)) = true then sL4Quoted p0 else some default) >>= fun (y9 : Bool) => (if ((true && (y8 == false)) && (y9 == true)) = true then sL4Quoted p1 else some default) >>= fun (y10 : Bool) => (if (true && (y8 == false)) = true then some (if y9 = true then y10 else false) else some default) >>= fun (y11 : Bool) => (some (if y8 = true then true else y11)) >>= fun (y12 : Bool) => if y12 = true then (some true) else ((some (if (!decide (p0.kind = 5)) = true then true else (!decide (p1.kind = 5)))) >>= fun (y13 : Bool) => if y13 = true then (some false) else (if (decide (p0.text = [45])) = true then (some (decide (p1.text = [45]))) else (if (decide (p0.text = [47])) = true then (some (decide (p1.text = [42]))) else (if (decide (p0.text = [60])) = true then ((idxS p1.text 0) >>= fun (y14 : Int) => (if (true && ((decide (y14 = 61)) == false)) = true then idxS p1.text 0 else some default) >>= fun (y15 : Int) => (some (if (decide (y14 = 61)) = true then true else (decide (y15 = 62)))) >>= fun (y16 : Bool) => some y16) else (if (decide (p0.text = [62])) = true then ((idxS p1.text 0) >>= fun (y17 : Int) => some (decide (y17 = 61))) else (some false)))))))
mutual
def sL4Join_J1 (p0 : (List GToken)) (p1 : Bool) (x6 : Int) (x5_9 : (List Int)) : Option (List UInt8) :=
  (idx p0 x6) >>= fun (y11 : GToken) => (sTokenText y11) >>= fun (y12 : (List UInt8)) => (appG 1 x5_9 (toBytes y12)) >>= fun (y13 : List Int) => sL4Join_L0 p0 p1 y13 (IntKind.wrap .i64 (x6 + 1))
  partial_fixpoint
def sL4Join_L0 (p0 : (List GToken)) (p1 : Bool) (x5 : (List Int)) (x6 : Int) : Option (List UInt8) :=
  if (decide (x6 < (p0.length : Int))) = true then ((idx p0 x6) >>= fun (y1 : GToken) => (sTokenOk y1) >>= fun (y2 : Bool) => if (!y2) = true then (some []) else ((if ((true && ((decide (0 < x6)) == true)) && (p1 == false)) = true then idx p0 (IntKind.wrap .i64 (x6 - 1)) else some default) >>= fun (y3 : GToken) => (if ((true && ((decide (0 < x6)) == true)) && (p1 == false)) = true then idx p0 x6 else some default) >>= fun (y4 : GToken) => (if ((true && ((decide (0 < x6)) == true)) && (p1 == false)) = true then sNeedsGap y3 y4 else some default) >>= fun (y5 : Bool) => (if (true && ((decide (0 < x6)) == true)) = true then some (if p1 = true then true else y5) else some default) >>= fun (y6 : Bool) => (some (if (decide (0 < x6)) = true then y6 else false)) >>= fun (y7 : Bool) => if y7 = true then ((appG 1 x5 ([32] : List Int)) >>= fun (y8 : List Int) => sL4Join_J1 p0 p1 x6 y8) else (sL4Join_J1 p0 p1 x6 x5))) else (if (decide (2000 < (x5.length : Int))) = true then (some []) else ((ofBytes x5) >>= fun (y10 : (List UInt8)) => some y10))
  partial_fixpoint
end
def sL4Join (p0 : (List GToken)) (p1 : Bool) : Option (List UInt8) :=
  sL4Join_L0 p0 p1 ([] : List Int) 0
def sSpaced (p0 : (List GToken)) : Option (List UInt8) :=
  (sL4Join p0 false) >>= fun (y1 : (List UInt8)) => some y1
def sCatalogText (p0 : GCatalog) : Option (List UInt8) :=
  (sCatalogOk p0) >>= fun (y1 : Bool) => if (!y1) = true then (some []) else ((sL16Tokens p0) >>= fun (y2 : (List GToken)) => (sSpaced y2) >>= fun (y3 : (List UInt8)) => some y3)
def wEqCol (p0 : GCol) (p1 : GCol) : Option Bool :=
  if (!decide (p0.name = p1.name)) = true then (some false) else (if (!decide (p0.type = p1.type)) = true then (some false) else (some true))
def wEqColS_L0 (p0 : (List GCol)) (p1 : (List GCol)) (x5 : Int) : Option Bool :=
  if (decide (x5 < (p0.length : Int))) = true then ((idx p0 x5) >>= fun (y1 : GCol) => (idx p1 x5) >>= fun (y2 : GCol) => (wEqCol y1 y2) >>= fun (y3 : Bool) => if (!y3) = true then (some false) else (wEqColS_L0 p0 p1 (IntKind.wrap .i64 (x5 + 1)))) else (some true)
  partial_fixpoint
def wEqColS (p0 : (List GCol)) (p1 : (List GCol)) : Option Bool :=
  if (!decide ((p0.length : Int) = (p1.length : Int))) = true then (some false) else (wEqColS_L0 p0 p1 0)
def wEqTable (p0 : GTable) (p1 : GTable) : Option Bool :=
  if (!decide (p0.name = p1.name)) = true then (some false) else ((wEqColS p0.cols p1.cols) >>= fun (y1 : Bool) => if (!y1) = true then (some false) else (some true))
def wEqTableS_L0 (p0 : (List GTable)) (p1 : (List GTable)) (x5 : Int) : Option Bool :=
  if (decide (x5 < (p0.length : Int))) = true then ((idx p0 x5) >>= fun (y1 : GTable) => (idx p1 x5) >>= fun (y2 : GTable) => (wEqTable y1 y2) >>= fun (y3 : Bool) => if (!y3) = true then (some false) else (wEqTableS_L0 p0 p1 (IntKind.wrap .i64 (x5 + 1)))) else (some true)
  partial_fixpoint
def wEqTableS (p0 : (List GTable)) (p1 : (List GTable)) : Option Bool :=
  if (!decide ((p0.length : Int) = (p1.length : Int))) = true then (some false) else (wEqTableS_L0 p0 p1 0)
def wEqCatalog (p0 : GCatalog) (p1 : GCatalog) : Option Bool :=
  (wEqTableS p0.tables p1.tables) >>= fun (y1 : Bool) => if (!y1) = true then (some false) else (some true)
def wSzCol (p0 : GCol) (p1 : Int) : Option Int :=
  if (decide ((IntKind.wrap .i64 (p1 - (p0.name.length : Int))) < 0)) = true then (some (-1)) else (some (IntKind.wrap .i64 (p1 - (p0.name.length : Int))))
def wSzColS_L0 (p0 : (List GCol)) (x1 : Int) (x5 : Int) : Option Int :=
  if (decide (x5 < (p0.length : Int))) = true then ((idx p0 x5) >>= fun (y1 : GCol) => (wSzCol y1 x1) >>= fun (y2 : Int) => if (decide (y2 < 0)) = true then (some (-1)) else (wSzColS_L0 p0 y2 (IntKind.wrap .i64 (x5 + 1)))) else (some x1)
  partial_fixpoint
def wSzColS (p0 : (List GCol)) (p1 : Int) : Option Int :=
  if (decide ((IntKind.wrap .i64 (p1 - (p0.length : Int))) < 0)) = true then (some (-1)) else (wSzColS_L0 p0 (IntKind.wrap .i64 (p1 - (p0.length : Int))) 0)
def wSzTable (p0 : GTable) (p1 : Int) : Option Int :=
  if (decide ((IntKind.wrap .i64 (p1 - (p0.name.length : Int))) < 0)) = true then (some (-1)) else ((wSzColS p0.cols (IntKind.wrap .i64 (p1 - (p0.name.length : Int)))) >>= fun (y1 : Int) => if (decide (y1 < 0)) = true then (some (-1)) else (some y1))
def wSzTableS_L0 (p0 : (List GTable)) (x1 : Int) (x5 : Int) : Option Int :=
  if (decide (x5 < (p0.length : Int))) = true then ((idx p0 x5) >>= fun (y1 : GTable) => (wSzTable y1 x1) >>= fun (y2 : Int) => if (decide (y2 < 0)) = true then (some (-1)) else (wSzTableS_L0 p0 y2 (IntKind.wrap .i64 (x5 + 1)))) else (some x1)
  partial_fixpoint
def wSzTableS (p0 : (List GTable)) (p1 : Int) : Option Int :=
  if (decide ((IntKind.wrap .i64 (p1 - (p0.length : Int))) < 0)) = true then (some (-1)) else (wSzTableS_L0 p0 (IntKind.wrap .i64 (p1 - (p0.length : Int))) 0)
def wSzCatalog (p0 : GCatalog) (p1 : Int) : Option Int :=
  (wSzTableS p0.tables p1) >>= fun (y1 : Int) => if (decide (y1 < 0)) = true then (some (-1)) else (some y1)
def wToCol (p0 : GCol) : Option GCol :=
  some p0
def wToColS_L0 (p0 : (List GCol)) (x4 : Int) (b7_0 : (List GCol)) : Option (List GCol) :=
  if (decide (x4 < (p0.length : Int))) = true then ((idx p0 x4) >>= fun (y2 : GCol) => (wToCol y2) >>= fun (y3 : GCol) => (idx b7_0 x4) >>= fun (y4 : GCol) => (setG b7_0 x4 y3) >>= fun (y5 : (List GCol)) => wToColS_L0 p0 (IntKind.wrap .i64 (x4 + 1)) y5) else (some b7_0)
  partial_fixpoint
def wToColS (p0 : (List GCol)) : Option (List GCol) :=
  (mkG 24 (p0.length : Int) ((GCol.mk [] 0) : GCol)) >>= fun (y1 : (List GCol)) => wToColS_L0 p0 0 y1
def wToTable (p0 : GTable) : Option GTable :=
  (wToColS p0.cols) >>= fun (y1 : (List GCol)) => some (GTable.mk p0.name y1)
def wToTableS_L0 (p0 : (List GTable)) (x4 : Int) (b7_0 : (List GTable)) : Option (List GTable) :=
  if (decide (x4 < (p0.length : Int))) = true then ((idx p0 x4) >>= fun (y2 : GTable) => (wToTable y2) >>= fun (y3 : GTable) => (idx b7_0 x4) >>= fun (y4 : GTable) => (setG b7_0 x4 y3) >>= fun (y5 : (List GTable)) => wToTableS_L0 p0 (IntKind.wrap .i64 (x4 + 1)) y5) else (some b7_0)
  partial_fixpoint
def wToTableS (p0 : (List GTable)) : Option (List GTable) :=
  (mkG 40 (p0.length : Int) ((GTable.mk [] ([] : List GCol)) : GTable)) >>= fun (y1 : (List GTable)) => wToTableS_L0 p0 0 y1
def wToCatalog (p0 : GCatalog) : Option GCatalog :=
  (wToTableS p0.tables) >>= fun (y1 : (List GTable)) => some (GCatalog.mk y1)
def wFnExactCatalogText (p0 : GCatalog) : Option Bool :=
  (wSzCatalog p0 1048576) >>= fun (y1 : Int) => if (decide (y1 < 0)) = true then (some true) else ((wToCatalog p0) >>= fun (y2 : GCatalog) => (sCatalogText y2) >>= fun (y3 : (List UInt8)) => (wToCatalog p0) >>= fun (y4 : GCatalog) => (iCatalogText y4) >>= fun (y5 : (List UInt8)) => if (!decide (y5 = y3)) = true then (some false) else ((wToCatalog p0) >>= fun (y6 : GCatalog) => (wEqCatalog y4 y6) >>= fun (y7 : Bool) => if (!y7) = true then (some false) else (some true)))
end Go.Ab
