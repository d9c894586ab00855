/- The functions of the program, as Lean functions (printed by a program). -/
import Derived.Test.YtflhmnfmihkbmabDoorAbF1
namespace Go.Ab
open Go
structure GCol where
  name : (List UInt8)
  type : Int
instance : Inhabited GCol := ⟨(GCol.mk [] 0)⟩
structure GTable where
  name : (List UInt8)
  cols : (List GCol)
instance : Inhabited GTable := ⟨(GTable.mk [] [])⟩
structure GCatalog where
  tables : (List GTable)
instance : Inhabited GCatalog := ⟨(GCatalog.mk [])⟩
structure GValue where
  kind : Int
  num : Int
  text : (List UInt8)
instance : Inhabited GValue := ⟨(GValue.mk 0 0 [])⟩
structure GData where
  rows : (List (List GValue))
instance : Inhabited GData := ⟨(GData.mk [])⟩
structure GDb where
  tables : (List GData)
instance : Inhabited GDb := ⟨(GDb.mk [])⟩
structure GL1Cur where
  b : (List Int)
  i : Int
  h : Int
instance : Inhabited GL1Cur := ⟨(GL1Cur.mk [] 0 0)⟩
def okGCol (x : GCol) : Prop := okS x.name ∧ okI x.type
def okGTable (x : GTable) : Prop := okS x.name ∧ (okL okGCol) x.cols
def okGCatalog (x : GCatalog) : Prop := (okL okGTable) x.tables
def okGValue (x : GValue) : Prop := okI x.kind ∧ okI x.num ∧ okS x.text
def okGData (x : GData) : Prop := (okL (okL okGValue)) x.rows
def okGDb (x : GDb) : Prop := (okL okGData) x.tables
def okGL1Cur (x : GL1Cur) : Prop := (okL okU8) x.b ∧ okI x.i ∧ okI x.h
def iColAt_1_x (p0 : GCol) (c0_0 : (List UInt8)) : Option Bool :=
  some (decide (p0.name = c0_0))
def gSlices_IndexFunc_Simpl_Col_impl_Col_iColAt_1_L0 (p0 : (List GCol)) (c0_0 : (List UInt8)) (x8 : Int) : Option Int :=
  if (decide (x8 < (p0.length : Int))) = true then ((idx p0 x8) >>= fun (y1 : GCol) => (iColAt_1_x y1 c0_0) >>= fun (y2 : Bool) => if y2 = true then (some x8) else (gSlices_IndexFunc_Simpl_Col_impl_Col_iColAt_1_L0 p0 c0_0 (IntKind.wrap .i64 (x8 + 1)))) else (some (-1))
  partial_fixpoint
def gSlices_IndexFunc_Simpl_Col_impl_Col_iColAt_1 (p0 : (List GCol)) (c0_0 : (List UInt8)) : Option Int :=
  gSlices_IndexFunc_Simpl_Col_impl_Col_iColAt_1_L0 p0 c0_0 0
def iColAt (p0 : GTable) (p1 : (List UInt8)) : Option Int :=
  (gSlices_IndexFunc_Simpl_Col_impl_Col_iColAt_1 p0.cols p1) >>= fun (y1 : Int) => some y1
def iNameOk (p0 : (List UInt8)) : Option Bool :=
  (some (if (decide (1 ≤ (p0.length : Int))) = true then (decide ((p0.length : Int) ≤ 20)) else false)) >>= fun (y1 : Bool) => some y1
def iIsTable_L0 (p0 : GTable) (x8 : Int) : Option Bool :=
  if (decide (x8 < (p0.cols.length : Int))) = true then ((idx p0.cols x8) >>= fun (y1 : GCol) => (iNameOk y1.name) >>= fun (y2 : Bool) => (some (if (!y2) = true then true else (decide (y1.type < 1)))) >>= fun (y3 : Bool) => (some (if y3 = true then true else (decide (3 < y1.type)))) >>= fun (y4 : Bool) => (if (true && (y4 == false)) = true then iColAt p0 y1.name else some default) >>= fun (y5 : Int) => (some (if y4 = true then true else (!decide (y5 = x8)))) >>= fun (y6 : Bool) => if y6 = true then (some false) else (iIsTable_L0 p0 (IntKind.wrap .i64 (x8 + 1)))) else ((iNameOk p0.name) >>= fun (y7 : Bool) => (some (if y7 = true then (decide (1 ≤ (p0.cols.length : Int))) else false)) >>= fun (y8 : Bool) => (some (if y8 = true then (decide ((p0.cols.length : Int) ≤ 4)) else false)) >>= fun (y9 : Bool) => some y9)
  partial_fixpoint
def iIsTable (p0 : GTable) : Option Bool :=
  iIsTable_L0 p0 0
def iTableAt_1_x (p0 : GTable) (c0_0 : (List UInt8)) : Option Bool :=
  some (decide (p0.name = c0_0))
def gSlices_IndexFunc_Simpl_Table_impl_Table_iTableAt_1_L0 (p0 : (List GTable)) (c0_0 : (List UInt8)) (x8 : Int) : Option Int :=
  if (decide (x8 < (p0.length : Int))) = true then ((idx p0 x8) >>= fun (y1 : GTable) => (iTableAt_1_x y1 c0_0) >>= fun (y2 : Bool) => if y2 = true then (some x8) else (gSlices_IndexFunc_Simpl_Table_impl_Table_iTableAt_1_L0 p0 c0_0 (IntKind.wrap .i64 (x8 + 1)))) else (some (-1))
  partial_fixpoint
def gSlices_IndexFunc_Simpl_Table_impl_Table_iTableAt_1 (p0 : (List GTable)) (c0_0 : (List UInt8)) : Option Int :=
  gSlices_IndexFunc_Simpl_Table_impl_Table_iTableAt_1_L0 p0 c0_0 0
def iTableAt (p0 : GCatalog) (p1 : (List UInt8)) : Option Int :=
  (gSlices_IndexFunc_Simpl_Table_impl_Table_iTableAt_1 p0.tables p1) >>= fun (y1 : Int) => some y1
def iCatalogOk_L0 (p0 : GCatalog) (x8 : Int) : Option Bool :=
  if (decide (x8 < (p0.tables.length : Int))) = true then ((idx p0.tables x8) >>= fun (y1 : GTable) => (iIsTable y1) >>= fun (y2 : Bool) => (if (true && ((!y2) == false)) = true then iTableAt p0 y1.name else some default) >>= fun (y3 : Int) => (some (if (!y2) = true then true else (!decide (y3 = x8)))) >>= fun (y4 : Bool) => if y4 = true then (some false) else (iCatalogOk_L0 p0 (IntKind.wrap .i64 (x8 + 1)))) else (some (decide ((p0.tables.length : Int) ≤ 4)))
  partial_fixpoint
def iCatalogOk (p0 : GCatalog) : Option Bool :=
  iCatalogOk_L0 p0 0
def iValueOk (p0 : GValue) : Option Bool :=
  if (decide (p0.kind = 0)) = true then ((some (if (decide (p0.num = 0)) = true then (decide (p0.text = [])) else false)) >>= fun (y1 : Bool) => some y1) else (if (decide (p0.kind = 1)) = true then (some (decide (p0.text = []))) else (if (decide (p0.kind = 2)) = true then ((some (if (decide (p0.num = 0)) = true then (decide ((p0.text.length : Int) ≤ 200)) else false)) >>= fun (y2 : Bool) => some y2) else (if (decide (p0.kind = 3)) = true then ((some (if (decide (p0.num = 0)) = true then true else (decide (p0.num = 1)))) >>= fun (y3 : Bool) => (some (if y3 = true then (decide (p0.text = [])) else false)) >>= fun (y4 : Bool) => some y4) else (some false))))
def iFitsType (p0 : GValue) (p1 : Int) : Option Bool :=
  (iValueOk p0) >>= fun (y1 : Bool) => (if (true && (y1 == true)) = true then some (if (decide (p0.kind = 0)) = true then true else (decide (p0.kind = p1))) else some default) >>= fun (y2 : Bool) => (some (if y1 = true then y2 else false)) >>= fun (y3 : Bool) => some y3
def iRowFits_L0 (p1 : (List Int)) (p0 : (List GValue)) (x14 : Int) : Option Bool :=
  if (decide (x14 < (p0.length : Int))) = true then ((idx p0 x14) >>= fun (y1 : GValue) => (idx p1 x14) >>= fun (y2 : Int) => (iFitsType y1 y2) >>= fun (y3 : Bool) => if (!y3) = true then (some false) else (iRowFits_L0 p1 p0 (IntKind.wrap .i64 (x14 + 1)))) else (some true)
  partial_fixpoint
def iRowFits (p0 : (List GValue)) (p1 : (List Int)) : Option Bool :=
  if (!decide ((p0.length : Int) = (p1.length : Int))) = true then (some false) else (iRowFits_L0 p1 p0 0)
def iDbOk_1_x (p0 : (List GValue)) (c0_0 : (List Int)) : Option Bool :=
  (iRowFits p0 c0_0) >>= fun (y1 : Bool) => some (!y1)
def gSlices_IndexFunc_SSimpl_Value_Simpl_Value_iDbOk_1_L0 (p0 : (List (List GValue))) (c0_0 : (List Int)) (x8 : Int) : Option Int :=
  if (decide (x8 < (p0.length : Int))) = true then ((idx p0 x8) >>= fun (y1 : (List GValue)) => (iDbOk_1_x y1 c0_0) >>= fun (y2 : Bool) => if y2 = true then (some x8) else (gSlices_IndexFunc_SSimpl_Value_Simpl_Value_iDbOk_1_L0 p0 c0_0 (IntKind.wrap .i64 (x8 + 1)))) else (some (-1))
  partial_fixpoint
def gSlices_IndexFunc_SSimpl_Value_Simpl_Value_iDbOk_1 (p0 : (List (List GValue))) (c0_0 : (List Int)) : Option Int :=
  gSlices_IndexFunc_SSimpl_Value_Simpl_Value_iDbOk_1_L0 p0 c0_0 0
def gSlices_ContainsFunc_SSimpl_Value_Simpl_Value_iDbOk_1 (p0 : (List (List GValue))) (c0_0 : (List Int)) : Option Bool :=
  (gSlices_IndexFunc_SSimpl_Value_Simpl_Value_iDbOk_1 p0 c0_0) >>= fun (y1 : Int) => some (decide (0 ≤ y1))
def iTypesOf_L0 (p0 : GTable) (x3 : (List Int)) (x10 : Int) : Option (List Int) :=
  if (decide (x10 < (p0.cols.length : Int))) = true then ((idx p0.cols x10) >>= fun (y1 : GCol) => (appG 8 x3 ([y1.type] : List Int)) >>= fun (y2 : List Int) => iTypesOf_L0 p0 y2 (IntKind.wrap .i64 (x10 + 1))) else (some x3)
  partial_fixpoint
def iTypesOf (p0 : GTable) : Option (List Int) :=
  iTypesOf_L0 p0 ([] : List Int) 0
def iDbOk_L0 (p1 : GDb) (p0 : GCatalog) (x23 : Int) : Option Bool :=
  if (decide (x23 < (p1.tables.length : Int))) = true then ((idx p1.tables x23) >>= fun (y3 : GData) => (idx p0.tables x23) >>= fun (y4 : GTable) => (iTypesOf y4) >>= fun (y5 : (List Int)) => (if (true && ((decide (6 < (y3.rows.length : Int))) == false)) = true then gSlices_ContainsFunc_SSimpl_Value_Simpl_Value_iDbOk_1 y3.rows y5 else some (default : Bool)) >>= fun (y6 : Bool) => (some (if (decide (6 < (y3.rows.length : Int))) = true then true else y6)) >>= fun (y7 : Bool) => if y7 = true then (some false) else (iDbOk_L0 p1 p0 (IntKind.wrap .i64 (x23 + 1)))) else (some true)
  partial_fixpoint
def iDbOk (p0 : GCatalog) (p1 : GDb) : Option Bool :=
  (iCatalogOk p0) >>= fun (y1 : Bool) => (some (if (!y1) = true then true else (!decide ((p1.tables.length : Int) = (p0.tables.length : Int))))) >>= fun (y2 : Bool) => if y2 = true then (some false) else (iDbOk_L0 p1 p0 0)
def iEmptyDb (p0 : GCatalog) : Option GDb :=
  (mkG 24 (p0.tables.length : Int) ((GData.mk ([] : List (List GValue))) : GData)) >>= fun (y1 : (List GData)) => some (GDb.mk y1)
def gStrings_Builder_String_x (c0_1 : (List Int)) : Option ((List UInt8) × (List Int)) :=
  (ofBytes c0_1) >>= fun (y : List UInt8) => some (y, c0_1)
def gStrings_Builder_copyCheck_x (c0_1 : (List Int)) : Option Unit :=
  some ()
def gStrings_Builder_WriteString_x (c0_1 : (List Int)) (p1 : (List UInt8)) : Option (Int × (List Int)) :=
  (gStrings_Builder_copyCheck_x c0_1) >>= fun (y1 : Unit) => (appG 1 c0_1 (toBytes p1)) >>= fun (y2 : List Int) => some ((p1.length : Int), y2)
def gStrconv_Itoa (p0 : Int) : Option (List UInt8) :=
  some (Lib.itoa p0)
def iDigits (p0 : Int) : Option (List UInt8) :=
  (gStrconv_Itoa p0) >>= fun (y1 : (List UInt8)) => some y1
def gStrings_ReplaceAll (p0 : (List UInt8)) (p1 : (List UInt8)) (p2 : (List UInt8)) : Option (List UInt8) :=
  replG p0 p1 p2
def iQuoted (p0 : (List UInt8)) (p1 : (List UInt8)) : Option (List UInt8) :=
  (catS p1 p1) >>= fun (y1 : (List UInt8)) => (gStrings_ReplaceAll p0 p1 y1) >>= fun (y2 : (List UInt8)) => (catS p1 y2) >>= fun (y3 : (List UInt8)) => (catS y3 p1) >>= fun (y4 : (List UInt8)) => some y4
def iQuoteText (p0 : (List UInt8)) : Option (List UInt8) :=
  (iQuoted p0 [39]) >>= fun (y1 : (List UInt8)) => some y1
def iValueText (p0 : GValue) : Option (List UInt8) :=
  (iValueOk p0) >>= fun (y1 : Bool) => if (!y1) = true then (some [63]) else (if (decide (p0.kind = 1)) = true then ((iDigits p0.num) >>= fun (y2 : (List UInt8)) => some y2) else (if (decide (p0.kind = 2)) = true then ((iQuoteText p0.text) >>= fun (y3 : (List UInt8)) => some y3) else (if (decide (p0.kind = 3)) = true then (if (decide (p0.num = 1)) = true then (some [84, 82, 85, 69]) else (some [70, 65, 76, 83, 69])) else (some [78, 85, 76, 76]))))
mutual
def iRowsText_J2 (p0 : (List (List GValue))) (x11 : Int) (y1 : (List GValue)) (x17 : Int) (y4 : GValue) (b3_1_6 : (List Int)) : Option (List UInt8) :=
  (iValueText y4) >>= fun (y8 : (List UInt8)) => (gStrings_Builder_WriteString_x b3_1_6 y8) >>= fun (y9 : Int × (List Int)) => iRowsText_L1 p0 x11 y1 (IntKind.wrap .i64 (x17 + 1)) y9.2
  partial_fixpoint
def iRowsText_L1 (p0 : (List (List GValue))) (x11 : Int) (y1 : (List GValue)) (x17 : Int) (b3_1_2 : (List Int)) : Option (List UInt8) :=
  if (decide (x17 < (y1.length : Int))) = true then ((idx y1 x17) >>= fun (y4 : GValue) => if (decide (0 < x17)) = true then ((gStrings_Builder_WriteString_x b3_1_2 [124]) >>= fun (y5 : Int × (List Int)) => iRowsText_J2 p0 x11 y1 x17 y4 y5.2) else (iRowsText_J2 p0 x11 y1 x17 y4 b3_1_2)) else ((gStrings_Builder_WriteString_x b3_1_2 [10]) >>= fun (y7 : Int × (List Int)) => iRowsText_L0 p0 (IntKind.wrap .i64 (x11 + 1)) y7.2)
  partial_fixpoint
def iRowsText_L0 (p0 : (List (List GValue))) (x11 : Int) (b3_1 : (List Int)) : Option (List UInt8) :=
  if (decide (x11 < (p0.length : Int))) = true then ((idx p0 x11) >>= fun (y1 : (List GValue)) => iRowsText_L1 p0 x11 y1 0 b3_1) else ((gStrings_Builder_String_x b3_1) >>= fun (y3 : (List UInt8) × (List Int)) => some y3.1)
  partial_fixpoint
end
def iRowsText (p0 : (List (List GValue))) : Option (List UInt8) :=
  iRowsText_L0 p0 0 ([] : List Int)
def gSlices_Equal_Simpl_Value_impl_Value_L0 (p0 : (List GValue)) (p1 : (List GValue)) (x13 : Int) : Option Bool :=
  if (decide (x13 < (p0.length : Int))) = true then ((idx p0 x13) >>= fun (y1 : GValue) => (idx p1 x13) >>= fun (y2 : GValue) => if (!((decide (y1.kind = y2.kind)) && ((decide (y1.num = y2.num)) && ((decide (y1.text = y2.text)) && true)))) = true then (some false) else (gSlices_Equal_Simpl_Value_impl_Value_L0 p0 p1 (IntKind.wrap .i64 (x13 + 1)))) else (some true)
  partial_fixpoint
def gSlices_Equal_Simpl_Value_impl_Value (p0 : (List GValue)) (p1 : (List GValue)) : Option Bool :=
  if (!decide ((p0.length : Int) = (p1.length : Int))) = true then (some false) else (gSlices_Equal_Simpl_Value_impl_Value_L0 p0 p1 0)
def gSlices_EqualFunc_SSimpl_Value_SSimpl_Value_Simpl_Value_Simpl_Value_gSlices_Equal_Simpl_Value_impl_Value_L0 (p1 : (List (List GValue))) (p0 : (List (List GValue))) (x17 : Int) : Option Bool :=
  if (decide (x17 < (p0.length : Int))) = true then ((idx p0 x17) >>= fun (y1 : (List GValue)) => (idx p1 x17) >>= fun (y2 : (List GValue)) => (gSlices_Equal_Simpl_Value_impl_Value y1 y2) >>= fun (y3 : Bool) => if (!y3) = true then (some false) else (gSlices_EqualFunc_SSimpl_Value_SSimpl_Value_Simpl_Value_Simpl_Value_gSlices_Equal_Simpl_Value_impl_Value_L0 p1 p0 (IntKind.wrap .i64 (x17 + 1)))) else (some true)
  partial_fixpoint
def gSlices_EqualFunc_SSimpl_Value_SSimpl_Value_Simpl_Value_Simpl_Value_gSlices_Equal_Simpl_Value_impl_Value (p0 : (List (List GValue))) (p1 : (List (List GValue))) : Option Bool :=
  if (!decide ((p0.length : Int) = (p1.length : Int))) = true then (some false) else (gSlices_EqualFunc_SSimpl_Value_SSimpl_Value_Simpl_Value_Simpl_Value_gSlices_Equal_Simpl_Value_impl_Value_L0 p1 p0 0)
def iSameRows (p0 : (List (List GValue))) (p1 : (List (List GValue))) : Option Bool :=
  (gSlices_EqualFunc_SSimpl_Value_SSimpl_Value_Simpl_Value_Simpl_Value_gSlices_Equal_Simpl_Value_impl_Value p0 p1) >>= fun (y1 : Bool) => some y1
def iSameDb_1 (p0 : GData) (p1 : GData) : Option Bool :=
  (iSameRows p0.rows p1.rows) >>= fun (y1 : Bool) => some y1
def gSlices_EqualFunc_Simpl_Data_Simpl_Data_impl_Data_impl_Data_iSameDb_1_L0 (p1 : (List GData)) (p0 : (List GData)) (x17 : Int) : Option Bool :=
  if (decide (x17 < (p0.length : Int))) = true then ((idx p0 x17) >>= fun (y1 : GData) => (idx p1 x17) >>= fun (y2 : GData) => (iSameDb_1 y1 y2) >>= fun (y3 : Bool) => if (!y3) = true then (some false) else (gSlices_EqualFunc_Simpl_Data_Simpl_Data_impl_Data_impl_Data_iSameDb_1_L0 p1 p0 (IntKind.wrap .i64 (x17 + 1)))) else (some true)
  partial_fixpoint
def gSlices_EqualFunc_Simpl_Data_Simpl_Data_impl_Data_impl_Data_iSameDb_1 (p0 : (List GData)) (p1 : (List GData)) : Option Bool :=
  if (!decide ((p0.length : Int) = (p1.length : Int))) = true then (some false) else (gSlices_EqualFunc_Simpl_Data_Simpl_Data_impl_Data_impl_Data_iSameDb_1_L0 p1 p0 0)
def iSameDb (p0 : GDb) (p1 : GDb) : Option Bool :=
  (gSlices_EqualFunc_Simpl_Data_Simpl_Data_impl_Data_impl_Data_iSameDb_1 p0.tables p1.tables) >>= fun (y1 : Bool) => some y1
def sColAt_L0 (p1 : (List UInt8)) (p0 : GTable) (x5 : Int) : Option Int :=
  if (decide (x5 < (p0.cols.length : Int))) = true then ((idx p0.cols x5) >>= fun (y1 : GCol) => if (decide (y1.name = p1)) = true then (some x5) else (sColAt_L0 p1 p0 (IntKind.wrap .i64 (x5 + 1)))) else (some (-1))
  partial_fixpoint
def sColAt (p0 : GTable) (p1 : (List UInt8)) : Option Int :=
  sColAt_L0 p1 p0 0
def sL1In (p0 : Int) (p1 : Int) (p2 : Int) : Option Bool :=
  (some (if (decide (p1 ≤ p0)) = true then (decide (p0 ≤ p2)) else false)) >>= fun (y1 : Bool) => some y1
def sNameOk (p0 : (List UInt8)) : Option Bool :=
  (sL1In (p0.length : Int) 1 20) >>= fun (y1 : Bool) => some y1
def sTableAt_L0 (p1 : (List UInt8)) (p0 : GCatalog) (x5 : Int) : Option Int :=
  if (decide (x5 < (p0.tables.length : Int))) = true then ((idx p0.tables x5) >>= fun (y1 : GTable) => if (decide (y1.name = p1)) = true then (some x5) else (sTableAt_L0 p1 p0 (IntKind.wrap .i64 (x5 + 1)))) else (some (-1))
  partial_fixpoint
def sTableAt (p0 : GCatalog) (p1 : (List UInt8)) : Option Int :=
  sTableAt_L0 p1 p0 0
mutual
def sCatalogOk_L1 (x3 : Int) (p0 : GCatalog) (y1 : GTable) (x5 : Int) : Option Bool :=
  if (decide (x5 < (y1.cols.length : Int))) = true then ((idx y1.cols x5) >>= fun (y7 : GCol) => (sNameOk y7.name) >>= fun (y8 : Bool) => (if (true && ((!y8) == false)) = true then idx y1.cols x5 else some default) >>= fun (y9 : GCol) => (if (true && ((!y8) == false)) = true then sColAt y1 y9.name else some default) >>= fun (y10 : Int) => (some (if (!y8) = true then true else (!decide (y10 = x5)))) >>= fun (y11 : Bool) => (if (true && (y11 == false)) = true then idx y1.cols x5 else some default) >>= fun (y12 : GCol) => (if (true && (y11 == false)) = true then sL1In y12.type 1 3 else some default) >>= fun (y13 : Bool) => (some (if y11 = true then true else (!y13))) >>= fun (y14 : Bool) => if y14 = true then (some false) else (sCatalogOk_L1 x3 p0 y1 (IntKind.wrap .i64 (x5 + 1)))) else (sCatalogOk_L0 p0 (IntKind.wrap .i64 (x3 + 1)))
  partial_fixpoint
def sCatalogOk_L0 (p0 : GCatalog) (x3 : Int) : Option Bool :=
  if (decide (x3 < (p0.tables.length : Int))) = true then ((idx p0.tables x3) >>= fun (y1 : GTable) => (sNameOk y1.name) >>= fun (y2 : Bool) => (if (true && ((!y2) == false)) = true then sTableAt p0 y1.name else some default) >>= fun (y3 : Int) => (some (if (!y2) = true then true else (!decide (y3 = x3)))) >>= fun (y4 : Bool) => (if (true && (y4 == false)) = true then sL1In (y1.cols.length : Int) 1 4 else some default) >>= fun (y5 : Bool) => (some (if y4 = true then true else (!y5))) >>= fun (y6 : Bool) => if y6 = true then (some false) else (sCatalogOk_L1 x3 p0 y1 0)) else (some true)
  partial_fixpoint
end
def sCatalogOk (p0 : GCatalog) : Option Bool :=
  if (decide (4 < (p0.tables.length : Int))) = true then (some false) else (sCatalogOk_L0 p0 0)
def sL16Draw_J0 (b3_0 : (List GTable)) (b1000000_0 : (List Int)) (b1000000_1 : Int) (b1000000_2 : Int) : Option (GCatalog × GL1Cur) :=
  some ((GCatalog.mk b3_0), (GL1Cur.mk b1000000_0 b1000000_1 b1000000_2))
mutual
def sDigits_J1 (x0 : Int) (p0 : Int) (x4 : (List UInt8)) (x5 : Int) : Option (List UInt8) :=
  (ofBytes ([(IntKind.wrap .u8 (IntKind.wrap .i64 (48 + x5)))] : List Int)) >>= fun (y2 : (List UInt8)) => (catS y2 x4) >>= fun (y3 : (List UInt8)) => sDigits_L0 p0 (IntKind.wrap .i64 (Int.tdiv x0 10)) y3
  partial_fixpoint
def sDigits_L0 (p0 : Int) (x0 : Int) (x4 : (List UInt8)) : Option (List UInt8) :=
  if (!decide (x0 = 0)) = true then (if (decide ((Int.tmod x0 10) < 0)) = true then (sDigits_J1 x0 p0 x4 (IntKind.wrap .i64 (0 - (Int.tmod x0 10)))) else (sDigits_J1 x0 p0 x4 (Int.tmod x0 10))) else (if (decide (p0 < 0)) = true then ((catS [45] x4) >>= fun (y1 : (List UInt8)) => some y1) else (some x4))
  partial_fixpoint
end
def sDigits (p0 : Int) : Option (List UInt8) :=
  if (decide (p0 = 0)) = true then (some [48]) else (sDigits_L0 p0 p0 [])
def sL1Byte_J0 (p0 : GL1Cur) (x3 : Int) (b1000000_1 : Int) : Option (Int × GL1Cur) :=
  some (x3, (GL1Cur.mk p0.b b1000000_1 (IntKind.wrap .i64 ((IntKind.wrap .i64 (p0.h * 6364136223846793005)) + 1442695040888963407))))
def sL1Byte (p0 : GL1Cur) : Option (Int × GL1Cur) :=
  if (decide (p0.i < (p0.b.length : Int))) = true then ((idx p0.b p0.i) >>= fun (y1 : Int) => sL1Byte_J0 p0 (IntKind.wrap .i64 ((BitVec.ofInt (IntKind.bits .i64) (IntKind.wrap .i64 ((IntKind.wrap .i64 ((BitVec.ofInt (IntKind.bits .i64) (IntKind.wrap .i64 ((BitVec.ofInt (IntKind.bits .i64) (Int.fdiv (IntKind.wrap .i64 ((IntKind.wrap .i64 (p0.h * 6364136223846793005)) + 1442695040888963407)) (2 ^ 33)) ^^^ BitVec.ofInt (IntKind.bits .i64) (Int.fdiv (IntKind.wrap .i64 ((IntKind.wrap .i64 (p0.h * 6364136223846793005)) + 1442695040888963407)) (2 ^ 45))).toNat : Int)) &&& BitVec.ofInt (IntKind.bits .i64) 255).toNat : Int)) + (IntKind.wrap .i64 y1))) &&& BitVec.ofInt (IntKind.bits .i64) 255).toNat : Int)) (IntKind.wrap .i64 (p0.i + 1))) else (sL1Byte_J0 p0 (IntKind.wrap .i64 ((BitVec.ofInt (IntKind.bits .i64) (IntKind.wrap .i64 ((BitVec.ofInt (IntKind.bits .i64) (Int.fdiv (IntKind.wrap .i64 ((IntKind.wrap .i64 (p0.h * 6364136223846793005)) + 1442695040888963407)) (2 ^ 33)) ^^^ BitVec.ofInt (IntKind.bits .i64) (Int.fdiv (IntKind.wrap .i64 ((IntKind.wrap .i64 (p0.h * 6364136223846793005)) + 1442695040888963407)) (2 ^ 45))).toNat : Int)) &&& BitVec.ofInt (IntKind.bits .i64) 255).toNat : Int)) p0.i)
def sL1Below (p0 : GL1Cur) (p1 : Int) : Option (Int × GL1Cur) :=
  if (decide (p1 ≤ 0)) = true then (some (0, p0)) else (if (decide (p1 ≤ 256)) = true then ((sL1Byte p0) >>= fun (y1 : Int × GL1Cur) => (remG y1.1 p1) >>= fun (y2 : Int) => some (y2, y1.2)) else ((sL1Byte p0) >>= fun (y3 : Int × GL1Cur) => (sL1Byte y3.2) >>= fun (y4 : Int × GL1Cur) => (sL1Byte y4.2) >>= fun (y5 : Int × GL1Cur) => (sL1Byte y5.2) >>= fun (y6 : Int × GL1Cur) => (remG (IntKind.wrap .i64 ((IntKind.wrap .i64 ((IntKind.wrap .i64 ((IntKind.wrap .i64 (y3.1 * 16777216)) + (IntKind.wrap .i64 (y4.1 * 65536)))) + (IntKind.wrap .i64 (y5.1 * 256)))) + y6.1)) p1) >>= fun (y7 : Int) => some (y7, y6.2)))
def sL16Draw_L1 (b1000000_0_12 : (List Int)) (b1000000_1_13 : Int) (b1000000_2_14 : Int) (b60092000_0 : (List GTable)) : Option (GCatalog × GL1Cur) :=
  (sL1Below (GL1Cur.mk b1000000_0_12 b1000000_1_13 b1000000_2_14) 2) >>= fun (y15 : Int × GL1Cur) => if (decide ((b60092000_0.length : Int) < (IntKind.wrap .i64 (4 + y15.1)))) = true then ((sDigits (b60092000_0.length : Int)) >>= fun (y16 : (List UInt8)) => (catS [120] y16) >>= fun (y17 : (List UInt8)) => (appG 40 b60092000_0 ([(GTable.mk y17 ([(GCol.mk [97] 1), (GCol.mk [98] 1), (GCol.mk [99] 2), (GCol.mk [100] 3)] : List GCol))] : List GTable)) >>= fun (y18 : (List GTable)) => sL16Draw_L1 y15.2.b y15.2.i y15.2.h y18) else (sL16Draw_J0 b60092000_0 y15.2.b y15.2.i y15.2.h)
  partial_fixpoint
def sL1Once (p0 : GL1Cur) (p1 : Int) : Option (Bool × GL1Cur) :=
  (sL1Below p0 p1) >>= fun (y1 : Int × GL1Cur) => some ((decide (y1.1 = 0)), y1.2)
def sL1Pick (p0 : GL1Cur) (p1 : (List (List UInt8))) : Option ((List UInt8) × GL1Cur) :=
  (sL1Below p0 (p1.length : Int)) >>= fun (y1 : Int × GL1Cur) => (idx p1 y1.1) >>= fun (y2 : (List UInt8)) => some (y2, y1.2)
def sL1PickInt (p0 : GL1Cur) (p1 : (List Int)) : Option (Int × GL1Cur) :=
  (sL1Below p0 (p1.length : Int)) >>= fun (y1 : Int × GL1Cur) => (idx p1 y1.1) >>= fun (y2 : Int) => some (y2, y1.2)
def sL2Name (p0 : GL1Cur) : Option ((List UInt8) × GL1Cur) :=
  (sL1Once p0 6) >>= fun (y1 : Bool × GL1Cur) => if y1.1 = true then ((sL1Pick y1.2 ([[97, 32, 98], [102, 114, 111, 109], [83, 101, 108, 101, 99, 116], [49, 120], [113, 34, 113], [0], [34], [105, 116, 39, 115], [120, 46, 121], [45]] : List (List UInt8))) >>= fun (y2 : (List UInt8) × GL1Cur) => some (y2.1, y2.2)) else ((sL1Pick y1.2 ([[97], [98], [99], [116], [117], [118], [105, 100], [110, 97, 109, 101], [65], [95, 120, 49]] : List (List UInt8))) >>= fun (y3 : (List UInt8) × GL1Cur) => some (y3.1, y3.2))
mutual
def sL16Right_X_J3 (y1 : Int × GL1Cur) (x6 : Int) (y3 : Int × GL1Cur) (x9 : Int) (y2 : (List UInt8)) (b1000000_0_11 : (List Int)) (kb1000000_1_12q : (Int × (Int × ((List GTable) × (List GCol))))) : Option (GCatalog × GL1Cur) :=
  sL16Right_X_L1 y1 x6 y3 y2 kb1000000_1_12q.2.2.1 (IntKind.wrap .i64 (x9 + 1)) (b1000000_0_11, (kb1000000_1_12q.1, (kb1000000_1_12q.2.1, kb1000000_1_12q.2.2.2)))
  partial_fixpoint
def sL16Right_X_J2 (y1 : Int × GL1Cur) (x6 : Int) (y3 : Int × GL1Cur) (x9 : Int) (y2 : (List UInt8)) (y8 : Int × GL1Cur) (b60055001_0 : (List GCol)) (kb60023000_0q : ((List GTable) × ((List UInt8) × ((List Int) × (Int × Int))))) : Option (GCatalog × GL1Cur) :=
  (sColAt (GTable.mk y2 b60055001_0) kb60023000_0q.2.1) >>= fun (y15 : Int) => if (decide (y15 < 0)) = true then ((appG 24 b60055001_0 ([(GCol.mk kb60023000_0q.2.1 y8.1)] : List GCol)) >>= fun (y16 : (List GCol)) => sL16Right_X_J3 y1 x6 y3 x9 y2 kb60023000_0q.2.2.1 (kb60023000_0q.2.2.2.1, (kb60023000_0q.2.2.2.2, (kb60023000_0q.1, y16)))) else (sL16Right_X_J3 y1 x6 y3 x9 y2 kb60023000_0q.2.2.1 (kb60023000_0q.2.2.2.1, (kb60023000_0q.2.2.2.2, (kb60023000_0q.1, b60055001_0))))
  partial_fixpoint
def sL16Right_X_L1 (y1 : Int × GL1Cur) (x6 : Int) (y3 : Int × GL1Cur) (y2 : (List UInt8)) (b60023000_0 : (List GTable)) (x9 : Int) (kb1000000_0_4 : ((List Int) × (Int × (Int × (List GCol))))) : Option (GCatalog × GL1Cur) :=
  if (decide (x9 < (IntKind.wrap .i64 (1 + y3.1)))) = true then ((sL1Pick (GL1Cur.mk kb1000000_0_4.1 kb1000000_0_4.2.1 kb1000000_0_4.2.2.1) ([[97], [98], [99], [105, 100], [110, 97, 109, 101]] : List (List UInt8))) >>= fun (y7 : (List UInt8) × GL1Cur) => (sL1PickInt y7.2 ([1, 1, 2, 3] : List Int)) >>= fun (y8 : Int × GL1Cur) => (sL1Once y8.2 20) >>= fun (y9 : Bool × GL1Cur) => if y9.1 = true then ((sL2Name y9.2) >>= fun (y10 : (List UInt8) × GL1Cur) => sL16Right_X_J2 y1 x6 y3 x9 y2 y8 kb1000000_0_4.2.2.2 (b60023000_0, (y10.1, (y10.2.b, (y10.2.i, y10.2.h))))) else (sL16Right_X_J2 y1 x6 y3 x9 y2 y8 kb1000000_0_4.2.2.2 (b60023000_0, (y7.1, (y9.2.b, (y9.2.i, y9.2.h)))))) else ((appG 40 b60023000_0 ([(GTable.mk y2 kb1000000_0_4.2.2.2)] : List GTable)) >>= fun (y14 : (List GTable)) => sL16Right_X_L0 y1 (IntKind.wrap .i64 (x6 + 1)) kb1000000_0_4.1 kb1000000_0_4.2.1 kb1000000_0_4.2.2.1 y14)
  partial_fixpoint
def sL16Right_X_L0 (y1 : Int × GL1Cur) (x6 : Int) (b1000000_0 : (List Int)) (b1000000_1 : Int) (b1000000_2 : Int) (b60023000_0 : (List GTable)) : Option (GCatalog × GL1Cur) :=
  if (decide (x6 < (IntKind.wrap .i64 (1 + y1.1)))) = true then ((idx ([[116], [117], [118]] : List (List UInt8)) x6) >>= fun (y2 : (List UInt8)) => (sL1Below (GL1Cur.mk b1000000_0 b1000000_1 b1000000_2) 3) >>= fun (y3 : Int × GL1Cur) => sL16Right_X_L1 y1 x6 y3 y2 b60023000_0 0 (y3.2.b, (y3.2.i, (y3.2.h, ([] : List GCol))))) else (some ((GCatalog.mk b60023000_0), (GL1Cur.mk b1000000_0 b1000000_1 b1000000_2)))
  partial_fixpoint
end
def sL16Right_X (p0 : GL1Cur) : Option (GCatalog × GL1Cur) :=
  (sL1Below p0 3) >>= fun (y1 : Int × GL1Cur) => sL16Right_X_L0 y1 0 y1.2.b y1.2.i y1.2.h ([] : List GTable)
def sL1Bytes_L0 (p1 : Int) (x5 : (List Int)) (x6 : Int) (b1000000_0 : (List Int)) (b1000000_1 : Int) (b1000000_2 : Int) : Option ((List Int) × GL1Cur) :=
  if (decide (x6 < p1)) = true then ((sL1Byte (GL1Cur.mk b1000000_0 b1000000_1 b1000000_2)) >>= fun (y1 : Int × GL1Cur) => (appG 1 x5 ([(IntKind.wrap .u8 y1.1)] : List Int)) >>= fun (y2 : List Int) => sL1Bytes_L0 p1 y2 (IntKind.wrap .i64 (x6 + 1)) y1.2.b y1.2.i y1.2.h) else (some (x5, (GL1Cur.mk b1000000_0 b1000000_1 b1000000_2)))
  partial_fixpoint
def sL1Bytes (p0 : GL1Cur) (p1 : Int) : Option ((List Int) × GL1Cur) :=
  sL1Bytes_L0 p1 ([] : List Int) 0 p0.b p0.i p0.h
def sL2Words : Option (List (List UInt8)) :=
  some ([[], [83, 69, 76, 69, 67, 84], [68, 73, 83, 84, 73, 78, 67, 84], [70, 82, 79, 77], [74, 79, 73, 78], [79, 78], [87, 72, 69, 82, 69], [79, 82, 68, 69, 82], [66, 89], [65, 83, 67], [68, 69, 83, 67], [76, 73, 77, 73, 84], [65, 83], [65, 78, 68], [79, 82], [78, 79, 84], [73, 83], [73, 78], [66, 69, 84, 87, 69, 69, 78], [69, 88, 73, 83, 84, 83], [78, 85, 76, 76], [84, 82, 85, 69], [70, 65, 76, 83, 69], [73, 78, 83, 69, 82, 84], [73, 78, 84, 79], [86, 65, 76, 85, 69, 83], [85, 80, 68, 65, 84, 69], [83, 69, 84], [68, 69, 76, 69, 84, 69]] : List (List UInt8))
def sL2Any (p0 : GL1Cur) : Option ((List UInt8) × GL1Cur) :=
  (sL1Below p0 6) >>= fun (y1 : Int × GL1Cur) => if (decide (y1.1 = 0)) = true then ((sL1Pick y1.2 ([[], [97, 98, 99, 100, 101, 102, 103, 104, 105, 106, 107, 108, 109, 110, 111, 112, 113, 114, 115, 116], [97, 98, 99, 100, 101, 102, 103, 104, 105, 106, 107, 108, 109, 110, 111, 112, 113, 114, 115, 116, 117], [108, 105, 109, 105, 116], [76, 73, 77, 73, 84, 83], [65, 83, 99], [57], [97, 57], [195, 169]] : List (List UInt8))) >>= fun (y2 : (List UInt8) × GL1Cur) => some (y2.1, y2.2)) else (if (decide (y1.1 = 1)) = true then ((sL2Words) >>= fun (y3 : (List (List UInt8))) => (sL1Below y1.2 29) >>= fun (y4 : Int × GL1Cur) => (idx y3 y4.1) >>= fun (y5 : (List UInt8)) => some (y5, y4.2)) else (if (decide (y1.1 = 2)) = true then ((sL1Below y1.2 5) >>= fun (y6 : Int × GL1Cur) => (sL1Bytes y6.2 y6.1) >>= fun (y7 : (List Int) × GL1Cur) => (ofBytes y7.1) >>= fun (y8 : (List UInt8)) => some (y8, y7.2)) else ((sL2Name y1.2) >>= fun (y9 : (List UInt8) × GL1Cur) => some (y9.1, y9.2))))
def sL16Draw (p0 : GL1Cur) : Option (GCatalog × GL1Cur) :=
  (sL16Right_X p0) >>= fun (y1 : GCatalog × GL1Cur) => (sL1Below y1.2 16) >>= fun (y2 : Int × GL1Cur) => if (decide (y2.1 = 0)) = true then ((idx y1.1.tables 0) >>= fun (y3 : GTable) => (appG 40 y1.1.tables ([y3] : List GTable)) >>= fun (y4 : List GTable) => sL16Draw_J0 y4 y2.2.b y2.2.i y2.2.h) else (if (decide (y2.1 = 1)) = true then ((idx y1.1.tables 0) >>= fun (y5 : GTable) => (sL2Any y2.2) >>= fun (y6 : (List UInt8) × GL1Cur) => (sL1Below y6.2 5) >>= fun (y7 : Int × GL1Cur) => (appG 24 y5.cols ([(GCol.mk y6.1 y7.1)] : List GCol)) >>= fun (y8 : (List GCol)) => sL16Draw_J0 (y1.1.tables.set (0 : Int).toNat (GTable.mk y5.name y8)) y7.2.b y7.2.i y7.2.h) else (if (decide (y2.1 = 2)) = true then ((sL2Any y2.2) >>= fun (y9 : (List UInt8) × GL1Cur) => (idx y1.1.tables 0) >>= fun (y10 : GTable) => sL16Draw_J0 (y1.1.tables.set (0 : Int).toNat (GTable.mk y9.1 y10.cols)) y9.2.b y9.2.i y9.2.h) else (if (decide (y2.1 = 3)) = true then ((idx y1.1.tables 0) >>= fun (y11 : GTable) => sL16Draw_J0 (y1.1.tables.set (0 : Int).toNat (GTable.mk y11.name ([] : List GCol))) y2.2.b y2.2.i y2.2.h) else (if (decide (y2.1 = 4)) = true then (sL16Draw_J0 ([] : List GTable) y2.2.b y2.2.i y2.2.h) else (if (decide (y2.1 = 5)) = true then (sL16Draw_L1 y2.2.b y2.2.i y2.2.h y1.1.tables) else (sL16Draw_J0 y1.1.tables y2.2.b y2.2.i y2.2.h))))))
def sL1New_L0 (p0 : (List Int)) (x3 : Int) (x4 : Int) : Option GL1Cur :=
  (some (if (decide (x4 < (p0.length : Int))) = true then (decide (x4 < 4000)) else false)) >>= fun (y1 : Bool) => if y1 = true then ((idx p0 x4) >>= fun (y2 : Int) => sL1New_L0 p0 (IntKind.wrap .i64 ((BitVec.ofInt (IntKind.bits .i64) (IntKind.wrap .i64 ((IntKind.wrap .i64 ((IntKind.wrap .i64 (x3 * 131)) + (IntKind.wrap .i64 y2))) + 7)) &&& BitVec.ofInt (IntKind.bits .i64) 1073741823).toNat : Int)) (IntKind.wrap .i64 (x4 + 1))) else (some (GL1Cur.mk p0 0 x3))
  partial_fixpoint
def sL1New (p0 : (List Int)) : Option GL1Cur :=
  sL1New_L0 p0 (IntKind.wrap .i64 (28322 + (p0.length : Int))) 0
def sDrawEmptyDb (p0 : (List Int)) : Option GCatalog :=
  (sL1New p0) >>= fun (y1 : GL1Cur) => (sL16Draw y1) >>= fun (y2 : GCatalog × GL1Cur) => some y2.1
def wBig (p0 : (List Int)) : Option Bool :=
  some (decide (1048576 < (p0.length : Int)))
def wFnEmptyDb (p0 : (List Int)) : Option Bool :=
  (wBig p0) >>= fun (y1 : Bool) => if y1 = true then (some true) else ((sDrawEmptyDb p0) >>= fun (y2 : GCatalog) => (iEmptyDb y2) >>= fun (y3 : GDb) => (iDbOk y2 y3) >>= fun (y4 : Bool) => (sCatalogOk y2) >>= fun (y5 : Bool) => (some (if (y4 == y5) = true then (decide ((y3.tables.length : Int) = (y2.tables.length : Int))) else false)) >>= fun (y6 : Bool) => (if (true && (y6 == true)) = true then iSameDb y3 y3 else some default) >>= fun (y7 : Bool) => (some (if y6 = true then y7 else false)) >>= fun (y8 : Bool) => (if (true && (y8 == true)) = true then iRowsText ([] : List (List GValue)) else some default) >>= fun (y9 : (List UInt8)) => (some (if y8 = true then (decide (y9 = [])) else false)) >>= fun (y10 : Bool) => some y10)
end Go.Ab
