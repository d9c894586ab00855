/- The functions of the program, as Lean functions (printed by a program). -/
import Derived.Test.YtlohdmekmmjjlaaAbF0
namespace Go.Ab
open Go
structure GCol where
  name : (List UInt8)
  type : Int
instance : Inhabited GCol := ⟨(GCol.mk [] 0)⟩
structure GTable where
  name : (List UInt8)
  cols : (List GCol)
instance : Inhabited GTable := ⟨(GTable.mk [] [])⟩
structure GCatalog where
  tables : (List GTable)
instance : Inhabited GCatalog := ⟨(GCatalog.mk [])⟩
structure GValue where
  kind : Int
  num : Int
  text : (List UInt8)
instance : Inhabited GValue := ⟨(GValue.mk 0 0 [])⟩
structure GData where
  rows : (List (List GValue))
instance : Inhabited GData := ⟨(GData.mk [])⟩
structure GDb where
  tables : (List GData)
instance : Inhabited GDb := ⟨(GDb.mk [])⟩
def okGCol (x : GCol) : Prop := okS x.name ∧ okI x.type
def okGTable (x : GTable) : Prop := okS x.name ∧ (okL okGCol) x.cols
def okGCatalog (x : GCatalog) : Prop := (okL okGTable) x.tables
def okGValue (x : GValue) : Prop := okI x.kind ∧ okI x.num ∧ okS x.text
def okGData (x : GData) : Prop := (okL (okL okGValue)) x.rows
def okGDb (x : GDb) : Prop := (okL okGData) x.tables
def iColAt_1_x0 (p0 : GCol) (c0_0 : (List UInt8)) : Option Bool :=
  some (decide (p0.name = c0_0))
def gSlices_IndexFunc_impl_Col_impl_Col_x0_L0 (p0 : (List GCol)) (c0_0 : (List UInt8)) (x8 : Int) : Option Int :=
  if (decide (x8 < (p0.length : Int))) = true then ((idx p0 x8) >>= fun (y1 : GCol) => (iColAt_1_x0 y1 c0_0) >>= fun (y2 : Bool) => if y2 = true then (some x8) else (gSlices_IndexFunc_impl_Col_impl_Col_x0_L0 p0 c0_0 (IntKind.wrap .i64 (x8 + 1)))) else (some (-1))
  partial_fixpoint
def gSlices_IndexFunc_impl_Col_impl_Col_x0 (p0 : (List GCol)) (c0_0 : (List UInt8)) : Option Int :=
  gSlices_IndexFunc_impl_Col_impl_Col_x0_L0 p0 c0_0 0
def iColAt (p0 : GTable) (p1 : (List UInt8)) : Option Int :=
  (gSlices_IndexFunc_impl_Col_impl_Col_x0 p0.cols p1) >>= fun (y1 : Int) => some y1
def iNameOk (p0 : (List UInt8)) : Option Bool :=
  some (if (decide (1 ≤ (p0.length : Int))) = true then (decide ((p0.length : Int) ≤ 20)) else false)
def iIsTable_L0 (p0 : GTable) (x8 : Int) : Option Bool :=
  if (decide (x8 < (p0.cols.length : Int))) = true then ((idx p0.cols x8) >>= fun (y1 : GCol) => (iNameOk y1.name) >>= fun (y2 : Bool) => (if (true && ((if (if (!y2) = true then true else (decide (y1.type < 1))) = true then true else (decide (3 < y1.type))) == false)) = true then iColAt p0 y1.name else some default) >>= fun (y3 : Int) => if (if (if (if (!y2) = true then true else (decide (y1.type < 1))) = true then true else (decide (3 < y1.type))) = true then true else (!decide (y3 = x8))) = true then (some false) else (iIsTable_L0 p0 (IntKind.wrap .i64 (x8 + 1)))) else ((iNameOk p0.name) >>= fun (y4 : Bool) => some (if (if y4 = true then (decide (1 ≤ (p0.cols.length : Int))) else false) = true then (decide ((p0.cols.length : Int) ≤ 4)) else false))
  partial_fixpoint
def iIsTable (p0 : GTable) : Option Bool :=
  iIsTable_L0 p0 0
def iTableAt_1_x0 (p0 : GTable) (c0_0 : (List UInt8)) : Option Bool :=
  some (decide (p0.name = c0_0))
def gSlices_IndexFunc_impl_Table_impl_Table_x0_L0 (p0 : (List GTable)) (c0_0 : (List UInt8)) (x8 : Int) : Option Int :=
  if (decide (x8 < (p0.length : Int))) = true then ((idx p0 x8) >>= fun (y1 : GTable) => (iTableAt_1_x0 y1 c0_0) >>= fun (y2 : Bool) => if y2 = true then (some x8) else (gSlices_IndexFunc_impl_Table_impl_Table_x0_L0 p0 c0_0 (IntKind.wrap .i64 (x8 + 1)))) else (some (-1))
  partial_fixpoint
def gSlices_IndexFunc_impl_Table_impl_Table_x0 (p0 : (List GTable)) (c0_0 : (List UInt8)) : Option Int :=
  gSlices_IndexFunc_impl_Table_impl_Table_x0_L0 p0 c0_0 0
def iTableAt (p0 : GCatalog) (p1 : (List UInt8)) : Option Int :=
  (gSlices_IndexFunc_impl_Table_impl_Table_x0 p0.tables p1) >>= fun (y1 : Int) => some y1
def iCatalogOk_L0 (p0 : GCatalog) (x8 : Int) : Option Bool :=
  if (decide (x8 < (p0.tables.length : Int))) = true then ((idx p0.tables x8) >>= fun (y1 : GTable) => (iIsTable y1) >>= fun (y2 : Bool) => (if (true && ((!y2) == false)) = true then iTableAt p0 y1.name else some default) >>= fun (y3 : Int) => if (if (!y2) = true then true else (!decide (y3 = x8))) = true then (some false) else (iCatalogOk_L0 p0 (IntKind.wrap .i64 (x8 + 1)))) else (some (decide ((p0.tables.length : Int) ≤ 4)))
  partial_fixpoint
def iCatalogOk (p0 : GCatalog) : Option Bool :=
  iCatalogOk_L0 p0 0
def iValueOk (p0 : GValue) : Option Bool :=
  if (decide (p0.kind = 0)) = true then (some (if (decide (p0.num = 0)) = true then (decide (p0.text = [])) else false)) else (if (decide (p0.kind = 1)) = true then (some (decide (p0.text = []))) else (if (decide (p0.kind = 2)) = true then (some (if (decide (p0.num = 0)) = true then (decide ((p0.text.length : Int) ≤ 200)) else false)) else (if (decide (p0.kind = 3)) = true then (some (if (if (decide (p0.num = 0)) = true then true else (decide (p0.num = 1))) = true then (decide (p0.text = [])) else false)) else (some false))))
def iFitsType (p0 : GValue) (p1 : Int) : Option Bool :=
  (iValueOk p0) >>= fun (y1 : Bool) => some (if y1 = true then (if (decide (p0.kind = 0)) = true then true else (decide (p0.kind = p1))) else false)
def iRowFits_L0 (p1 : (List Int)) (p0 : (List GValue)) (x14 : Int) : Option Bool :=
  if (decide (x14 < (p0.length : Int))) = true then ((idx p0 x14) >>= fun (y1 : GValue) => (idx p1 x14) >>= fun (y2 : Int) => (iFitsType y1 y2) >>= fun (y3 : Bool) => if (!y3) = true then (some false) else (iRowFits_L0 p1 p0 (IntKind.wrap .i64 (x14 + 1)))) else (some true)
  partial_fixpoint
def iRowFits (p0 : (List GValue)) (p1 : (List Int)) : Option Bool :=
  if (!decide ((p0.length : Int) = (p1.length : Int))) = true then (some false) else (iRowFits_L0 p1 p0 0)
def iDbOk_1_x0 (p0 : (List GValue)) (c0_0 : (List Int)) : Option Bool :=
  (iRowFits p0 c0_0) >>= fun (y1 : Bool) => some (!y1)
def gSlices_IndexFunc_impl_Value_impl_Value_x0_L0 (p0 : (List (List GValue))) (c0_0 : (List Int)) (x8 : Int) : Option Int :=
  if (decide (x8 < (p0.length : Int))) = true then ((idx p0 x8) >>= fun (y1 : (List GValue)) => (iDbOk_1_x0 y1 c0_0) >>= fun (y2 : Bool) => if y2 = true then (some x8) else (gSlices_IndexFunc_impl_Value_impl_Value_x0_L0 p0 c0_0 (IntKind.wrap .i64 (x8 + 1)))) else (some (-1))
  partial_fixpoint
def gSlices_IndexFunc_impl_Value_impl_Value_x0 (p0 : (List (List GValue))) (c0_0 : (List Int)) : Option Int :=
  gSlices_IndexFunc_impl_Value_impl_Value_x0_L0 p0 c0_0 0
def gSlices_ContainsFunc_impl_Value_impl_Value_x0 (p0 : (List (List GValue))) (c0_0 : (List Int)) : Option Bool :=
  (gSlices_IndexFunc_impl_Value_impl_Value_x0 p0 c0_0) >>= fun (y1 : Int) => some (decide (0 ≤ y1))
def iTypesOf_L0 (p0 : GTable) (x3 : (List Int)) (x10 : Int) : Option (List Int) :=
  if (decide (x10 < (p0.cols.length : Int))) = true then ((idx p0.cols x10) >>= fun (y1 : GCol) => (appG 8 x3 ([y1.type] : List Int)) >>= fun (y2 : List Int) => iTypesOf_L0 p0 y2 (IntKind.wrap .i64 (x10 + 1))) else (some x3)
  partial_fixpoint
def iTypesOf (p0 : GTable) : Option (List Int) :=
  iTypesOf_L0 p0 ([] : List Int) 0
def iDbOk_L0 (p1 : GDb) (p0 : GCatalog) (x23 : Int) : Option Bool :=
  if (decide (x23 < (p1.tables.length : Int))) = true then ((idx p1.tables x23) >>= fun (y2 : GData) => (idx p0.tables x23) >>= fun (y3 : GTable) => (iTypesOf y3) >>= fun (y4 : (List Int)) => (if (true && ((decide (6 < (y2.rows.length : Int))) == false)) = true then gSlices_ContainsFunc_impl_Value_impl_Value_x0 y2.rows y4 else some (default : Bool)) >>= fun (y5 : Bool) => if (if (decide (6 < (y2.rows.length : Int))) = true then true else y5) = true then (some false) else (iDbOk_L0 p1 p0 (IntKind.wrap .i64 (x23 + 1)))) else (some true)
  partial_fixpoint
def iDbOk (p0 : GCatalog) (p1 : GDb) : Option Bool :=
  (iCatalogOk p0) >>= fun (y1 : Bool) => if (if (!y1) = true then true else (!decide ((p1.tables.length : Int) = (p0.tables.length : Int)))) = true then (some false) else (iDbOk_L0 p1 p0 0)
def sColAt_L0 (p1 : (List UInt8)) (p0 : GTable) (x5 : Int) : Option Int :=
  if (decide (x5 < (p0.cols.length : Int))) = true then ((idx p0.cols x5) >>= fun (y1 : GCol) => if (decide (y1.name = p1)) = true then (some x5) else (sColAt_L0 p1 p0 (IntKind.wrap .i64 (x5 + 1)))) else (some (-1))
  partial_fixpoint
def sColAt (p0 : GTable) (p1 : (List UInt8)) : Option Int :=
  sColAt_L0 p1 p0 0
def sL1In (p0 : Int) (p1 : Int) (p2 : Int) : Option Bool :=
  some (if (decide (p1 ≤ p0)) = true then (decide (p0 ≤ p2)) else false)
def sNameOk (p0 : (List UInt8)) : Option Bool :=
  (sL1In (p0.length : Int) 1 20) >>= fun (y1 : Bool) => some y1
def sTableAt_L0 (p1 : (List UInt8)) (p0 : GCatalog) (x5 : Int) : Option Int :=
  if (decide (x5 < (p0.tables.length : Int))) = true then ((idx p0.tables x5) >>= fun (y1 : GTable) => if (decide (y1.name = p1)) = true then (some x5) else (sTableAt_L0 p1 p0 (IntKind.wrap .i64 (x5 + 1)))) else (some (-1))
  partial_fixpoint
def sTableAt (p0 : GCatalog) (p1 : (List UInt8)) : Option Int :=
  sTableAt_L0 p1 p0 0
mutual
def sCatalogOk_L1 (x3 : Int) (p0 : GCatalog) (y1 : GTable) (x5 : Int) : Option Bool :=
  if (decide (x5 < (y1.cols.length : Int))) = true then ((idx y1.cols x5) >>= fun (y5 : GCol) => (sNameOk y5.name) >>= fun (y6 : Bool) => (if (true && ((!y6) == false)) = true then idx y1.cols x5 else some default) >>= fun (y7 : GCol) => (if (true && ((!y6) == false)) = true then sColAt y1 y7.name else some default) >>= fun (y8 : Int) => (if (true && ((if (!y6) = true then true else (!decide (y8 = x5))) == false)) = true then idx y1.cols x5 else some default) >>= fun (y9 : GCol) => (if (true && ((if (!y6) = true then true else (!decide (y8 = x5))) == false)) = true then sL1In y9.type 1 3 else some default) >>= fun (y10 : Bool) => if (if (if (!y6) = true then true else (!decide (y8 = x5))) = true then true else (!y10)) = true then (some false) else (sCatalogOk_L1 x3 p0 y1 (IntKind.wrap .i64 (x5 + 1)))) else (sCatalogOk_L0 p0 (IntKind.wrap .i64 (x3 + 1)))
  partial_fixpoint
def sCatalogOk_L0 (p0 : GCatalog) (x3 : Int) : Option Bool :=
  if (decide (x3 < (p0.tables.length : Int))) = true then ((idx p0.tables x3) >>= fun (y1 : GTable) => (sNameOk y1.name) >>= fun (y2 : Bool) => (if (true && ((!y2) == false)) = true then sTableAt p0 y1.name else some default) >>= fun (y3 : Int) => (if (true && ((if (!y2) = true then true else (!decide (y3 = x3))) == false)) = true then sL1In (y1.cols.length : Int) 1 4 else some default) >>= fun (y4 : Bool) => if (if (if (!y2) = true then true else (!decide (y3 = x3))) = true then true else (!y4)) = true then (some false) else (sCatalogOk_L1 x3 p0 y1 0)) else (some true)
  partial_fixpoint
end
def sCatalogOk (p0 : GCatalog) : Option Bool :=
  if (decide (4 < (p0.tables.length : Int))) = true then (some false) else (sCatalogOk_L0 p0 0)
def sValueOk (p0 : GValue) : Option Bool :=
  if (decide (p0.kind = 0)) = true then (some (if (decide (p0.num = 0)) = true then (decide (p0.text = [])) else false)) else (if (decide (p0.kind = 1)) = true then (some (decide (p0.text = []))) else (if (decide (p0.kind = 2)) = true then (some (if (decide (p0.num = 0)) = true then (decide ((p0.text.length : Int) ≤ 200)) else false)) else (if (decide (p0.kind = 3)) = true then ((sL1In p0.num 0 1) >>= fun (y1 : Bool) => some (if y1 = true then (decide (p0.text = [])) else false)) else (some false))))
def sFitsType (p0 : GValue) (p1 : Int) : Option Bool :=
  (sValueOk p0) >>= fun (y1 : Bool) => some (if y1 = true then (if (decide (p0.kind = 0)) = true then true else (decide (p0.kind = p1))) else false)
def sRowFits_L0 (p0 : (List GValue)) (p1 : (List Int)) (x5 : Int) : Option Bool :=
  if (decide (x5 < (p0.length : Int))) = true then ((idx p0 x5) >>= fun (y1 : GValue) => (idx p1 x5) >>= fun (y2 : Int) => (sFitsType y1 y2) >>= fun (y3 : Bool) => if (!y3) = true then (some false) else (sRowFits_L0 p0 p1 (IntKind.wrap .i64 (x5 + 1)))) else (some true)
  partial_fixpoint
def sRowFits (p0 : (List GValue)) (p1 : (List Int)) : Option Bool :=
  if (!decide ((p0.length : Int) = (p1.length : Int))) = true then (some false) else (sRowFits_L0 p0 p1 0)
def sTypesOf_L0 (p0 : GTable) (x3 : (List Int)) (x4 : Int) : Option (List Int) :=
  if (decide (x4 < (p0.cols.length : Int))) = true then ((idx p0.cols x4) >>= fun (y1 : GCol) => (appG 8 x3 ([y1.type] : List Int)) >>= fun (y2 : List Int) => sTypesOf_L0 p0 y2 (IntKind.wrap .i64 (x4 + 1))) else (some x3)
  partial_fixpoint
def sTypesOf (p0 : GTable) : Option (List Int) :=
  sTypesOf_L0 p0 ([] : List Int) 0
mutual
def sDbOk_L1 (x5 : Int) (p0 : GCatalog) (p1 : GDb) (x6 : Int) : Option Bool :=
  (idx p1.tables x5) >>= fun (y3 : GData) => if (decide (x6 < (y3.rows.length : Int))) = true then ((idx p1.tables x5) >>= fun (y4 : GData) => (idx y4.rows x6) >>= fun (y5 : (List GValue)) => (idx p0.tables x5) >>= fun (y6 : GTable) => (sTypesOf y6) >>= fun (y7 : (List Int)) => (sRowFits y5 y7) >>= fun (y8 : Bool) => if (!y8) = true then (some false) else (sDbOk_L1 x5 p0 p1 (IntKind.wrap .i64 (x6 + 1)))) else (sDbOk_L0 p0 p1 (IntKind.wrap .i64 (x5 + 1)))
  partial_fixpoint
def sDbOk_L0 (p0 : GCatalog) (p1 : GDb) (x5 : Int) : Option Bool :=
  if (decide (x5 < (p1.tables.length : Int))) = true then ((idx p1.tables x5) >>= fun (y2 : GData) => if (decide (6 < (y2.rows.length : Int))) = true then (some false) else (sDbOk_L1 x5 p0 p1 0)) else (some true)
  partial_fixpoint
end
def sDbOk (p0 : GCatalog) (p1 : GDb) : Option Bool :=
  (sCatalogOk p0) >>= fun (y1 : Bool) => if (if (!y1) = true then true else (!decide ((p1.tables.length : Int) = (p0.tables.length : Int)))) = true then (some false) else (sDbOk_L0 p0 p1 0)
def wEqCol (p0 : GCol) (p1 : GCol) : Option Bool :=
  if (!decide (p0.name = p1.name)) = true then (some false) else (if (!decide (p0.type = p1.type)) = true then (some false) else (some true))
def wEqColS_L0 (p0 : (List GCol)) (p1 : (List GCol)) (x5 : Int) : Option Bool :=
  if (decide (x5 < (p0.length : Int))) = true then ((idx p0 x5) >>= fun (y1 : GCol) => (idx p1 x5) >>= fun (y2 : GCol) => (wEqCol y1 y2) >>= fun (y3 : Bool) => if (!y3) = true then (some false) else (wEqColS_L0 p0 p1 (IntKind.wrap .i64 (x5 + 1)))) else (some true)
  partial_fixpoint
def wEqColS (p0 : (List GCol)) (p1 : (List GCol)) : Option Bool :=
  if (!decide ((p0.length : Int) = (p1.length : Int))) = true then (some false) else (wEqColS_L0 p0 p1 0)
def wEqTable (p0 : GTable) (p1 : GTable) : Option Bool :=
  if (!decide (p0.name = p1.name)) = true then (some false) else ((wEqColS p0.cols p1.cols) >>= fun (y1 : Bool) => if (!y1) = true then (some false) else (some true))
def wEqTableS_L0 (p0 : (List GTable)) (p1 : (List GTable)) (x5 : Int) : Option Bool :=
  if (decide (x5 < (p0.length : Int))) = true then ((idx p0 x5) >>= fun (y1 : GTable) => (idx p1 x5) >>= fun (y2 : GTable) => (wEqTable y1 y2) >>= fun (y3 : Bool) => if (!y3) = true then (some false) else (wEqTableS_L0 p0 p1 (IntKind.wrap .i64 (x5 + 1)))) else (some true)
  partial_fixpoint
def wEqTableS (p0 : (List GTable)) (p1 : (List GTable)) : Option Bool :=
  if (!decide ((p0.length : Int) = (p1.length : Int))) = true then (some false) else (wEqTableS_L0 p0 p1 0)
def wEqCatalog (p0 : GCatalog) (p1 : GCatalog) : Option Bool :=
  (wEqTableS p0.tables p1.tables) >>= fun (y1 : Bool) => if (!y1) = true then (some false) else (some true)
def wEqValue (p0 : GValue) (p1 : GValue) : Option Bool :=
  if (!decide (p0.kind = p1.kind)) = true then (some false) else (if (!decide (p0.num = p1.num)) = true then (some false) else (if (!decide (p0.text = p1.text)) = true then (some false) else (some true)))
def wEqValueS_L0 (p0 : (List GValue)) (p1 : (List GValue)) (x5 : Int) : Option Bool :=
  if (decide (x5 < (p0.length : Int))) = true then ((idx p0 x5) >>= fun (y1 : GValue) => (idx p1 x5) >>= fun (y2 : GValue) => (wEqValue y1 y2) >>= fun (y3 : Bool) => if (!y3) = true then (some false) else (wEqValueS_L0 p0 p1 (IntKind.wrap .i64 (x5 + 1)))) else (some true)
  partial_fixpoint
def wEqValueS (p0 : (List GValue)) (p1 : (List GValue)) : Option Bool :=
  if (!decide ((p0.length : Int) = (p1.length : Int))) = true then (some false) else (wEqValueS_L0 p0 p1 0)
def wEqValueSS_L0 (p0 : (List (List GValue))) (p1 : (List (List GValue))) (x5 : Int) : Option Bool :=
  if (decide (x5 < (p0.length : Int))) = true then ((idx p0 x5) >>= fun (y1 : (List GValue)) => (idx p1 x5) >>= fun (y2 : (List GValue)) => (wEqValueS y1 y2) >>= fun (y3 : Bool) => if (!y3) = true then (some false) else (wEqValueSS_L0 p0 p1 (IntKind.wrap .i64 (x5 + 1)))) else (some true)
  partial_fixpoint
def wEqValueSS (p0 : (List (List GValue))) (p1 : (List (List GValue))) : Option Bool :=
  if (!decide ((p0.length : Int) = (p1.length : Int))) = true then (some false) else (wEqValueSS_L0 p0 p1 0)
def wEqData (p0 : GData) (p1 : GData) : Option Bool :=
  (wEqValueSS p0.rows p1.rows) >>= fun (y1 : Bool) => if (!y1) = true then (some false) else (some true)
def wEqDataS_L0 (p0 : (List GData)) (p1 : (List GData)) (x5 : Int) : Option Bool :=
  if (decide (x5 < (p0.length : Int))) = true then ((idx p0 x5) >>= fun (y1 : GData) => (idx p1 x5) >>= fun (y2 : GData) => (wEqData y1 y2) >>= fun (y3 : Bool) => if (!y3) = true then (some false) else (wEqDataS_L0 p0 p1 (IntKind.wrap .i64 (x5 + 1)))) else (some true)
  partial_fixpoint
def wEqDataS (p0 : (List GData)) (p1 : (List GData)) : Option Bool :=
  if (!decide ((p0.length : Int) = (p1.length : Int))) = true then (some false) else (wEqDataS_L0 p0 p1 0)
def wEqDb (p0 : GDb) (p1 : GDb) : Option Bool :=
  (wEqDataS p0.tables p1.tables) >>= fun (y1 : Bool) => if (!y1) = true then (some false) else (some true)
def wSzCol (p0 : GCol) (p1 : Int) : Option Int :=
  if (decide ((IntKind.wrap .i64 (p1 - (p0.name.length : Int))) < 0)) = true then (some (-1)) else (some (IntKind.wrap .i64 (p1 - (p0.name.length : Int))))
def wSzColS_L0 (p0 : (List GCol)) (x1 : Int) (x5 : Int) : Option Int :=
  if (decide (x5 < (p0.length : Int))) = true then ((idx p0 x5) >>= fun (y1 : GCol) => (wSzCol y1 x1) >>= fun (y2 : Int) => if (decide (y2 < 0)) = true then (some (-1)) else (wSzColS_L0 p0 y2 (IntKind.wrap .i64 (x5 + 1)))) else (some x1)
  partial_fixpoint
def wSzColS (p0 : (List GCol)) (p1 : Int) : Option Int :=
  if (decide ((IntKind.wrap .i64 (p1 - (p0.length : Int))) < 0)) = true then (some (-1)) else (wSzColS_L0 p0 (IntKind.wrap .i64 (p1 - (p0.length : Int))) 0)
def wSzTable (p0 : GTable) (p1 : Int) : Option Int :=
  if (decide ((IntKind.wrap .i64 (p1 - (p0.name.length : Int))) < 0)) = true then (some (-1)) else ((wSzColS p0.cols (IntKind.wrap .i64 (p1 - (p0.name.length : Int)))) >>= fun (y1 : Int) => if (decide (y1 < 0)) = true then (some (-1)) else (some y1))
def wSzTableS_L0 (p0 : (List GTable)) (x1 : Int) (x5 : Int) : Option Int :=
  if (decide (x5 < (p0.length : Int))) = true then ((idx p0 x5) >>= fun (y1 : GTable) => (wSzTable y1 x1) >>= fun (y2 : Int) => if (decide (y2 < 0)) = true then (some (-1)) else (wSzTableS_L0 p0 y2 (IntKind.wrap .i64 (x5 + 1)))) else (some x1)
  partial_fixpoint
def wSzTableS (p0 : (List GTable)) (p1 : Int) : Option Int :=
  if (decide ((IntKind.wrap .i64 (p1 - (p0.length : Int))) < 0)) = true then (some (-1)) else (wSzTableS_L0 p0 (IntKind.wrap .i64 (p1 - (p0.length : Int))) 0)
def wSzCatalog (p0 : GCatalog) (p1 : Int) : Option Int :=
  (wSzTableS p0.tables p1) >>= fun (y1 : Int) => if (decide (y1 < 0)) = true then (some (-1)) else (some y1)
def wSzValue (p0 : GValue) (p1 : Int) : Option Int :=
  if (decide ((IntKind.wrap .i64 (p1 - (p0.text.length : Int))) < 0)) = true then (some (-1)) else (some (IntKind.wrap .i64 (p1 - (p0.text.length : Int))))
def wSzValueS_L0 (p0 : (List GValue)) (x1 : Int) (x5 : Int) : Option Int :=
  if (decide (x5 < (p0.length : Int))) = true then ((idx p0 x5) >>= fun (y1 : GValue) => (wSzValue y1 x1) >>= fun (y2 : Int) => if (decide (y2 < 0)) = true then (some (-1)) else (wSzValueS_L0 p0 y2 (IntKind.wrap .i64 (x5 + 1)))) else (some x1)
  partial_fixpoint
def wSzValueS (p0 : (List GValue)) (p1 : Int) : Option Int :=
  if (decide ((IntKind.wrap .i64 (p1 - (p0.length : Int))) < 0)) = true then (some (-1)) else (wSzValueS_L0 p0 (IntKind.wrap .i64 (p1 - (p0.length : Int))) 0)
def wSzValueSS_L0 (p0 : (List (List GValue))) (x1 : Int) (x5 : Int) : Option Int :=
  if (decide (x5 < (p0.length : Int))) = true then ((idx p0 x5) >>= fun (y1 : (List GValue)) => (wSzValueS y1 x1) >>= fun (y2 : Int) => if (decide (y2 < 0)) = true then (some (-1)) else (wSzValueSS_L0 p0 y2 (IntKind.wrap .i64 (x5 + 1)))) else (some x1)
  partial_fixpoint
def wSzValueSS (p0 : (List (List GValue))) (p1 : Int) : Option Int :=
  if (decide ((IntKind.wrap .i64 (p1 - (p0.length : Int))) < 0)) = true then (some (-1)) else (wSzValueSS_L0 p0 (IntKind.wrap .i64 (p1 - (p0.length : Int))) 0)
def wSzData (p0 : GData) (p1 : Int) : Option Int :=
  (wSzValueSS p0.rows p1) >>= fun (y1 : Int) => if (decide (y1 < 0)) = true then (some (-1)) else (some y1)
def wSzDataS_L0 (p0 : (List GData)) (x1 : Int) (x5 : Int) : Option Int :=
  if (decide (x5 < (p0.length : Int))) = true then ((idx p0 x5) >>= fun (y1 : GData) => (wSzData y1 x1) >>= fun (y2 : Int) => if (decide (y2 < 0)) = true then (some (-1)) else (wSzDataS_L0 p0 y2 (IntKind.wrap .i64 (x5 + 1)))) else (some x1)
  partial_fixpoint
def wSzDataS (p0 : (List GData)) (p1 : Int) : Option Int :=
  if (decide ((IntKind.wrap .i64 (p1 - (p0.length : Int))) < 0)) = true then (some (-1)) else (wSzDataS_L0 p0 (IntKind.wrap .i64 (p1 - (p0.length : Int))) 0)
def wSzDb (p0 : GDb) (p1 : Int) : Option Int :=
  (wSzDataS p0.tables p1) >>= fun (y1 : Int) => if (decide (y1 < 0)) = true then (some (-1)) else (some y1)
def wToCol (p0 : GCol) : Option GCol :=
  some p0
def wToColS_L0 (p0 : (List GCol)) (x4 : Int) (b7_0 : (List GCol)) : Option (List GCol) :=
  if (decide (x4 < (p0.length : Int))) = true then ((idx p0 x4) >>= fun (y2 : GCol) => (wToCol y2) >>= fun (y3 : GCol) => (idx b7_0 x4) >>= fun (y4 : GCol) => (setG b7_0 x4 y3) >>= fun (y5 : (List GCol)) => wToColS_L0 p0 (IntKind.wrap .i64 (x4 + 1)) y5) else (some b7_0)
  partial_fixpoint
def wToColS (p0 : (List GCol)) : Option (List GCol) :=
  (mkG 24 (p0.length : Int) ((GCol.mk [] 0) : GCol)) >>= fun (y1 : (List GCol)) => wToColS_L0 p0 0 y1
def wToTable (p0 : GTable) : Option GTable :=
  (wToColS p0.cols) >>= fun (y1 : (List GCol)) => some (GTable.mk p0.name y1)
def wToTableS_L0 (p0 : (List GTable)) (x4 : Int) (b7_0 : (List GTable)) : Option (List GTable) :=
  if (decide (x4 < (p0.length : Int))) = true then ((idx p0 x4) >>= fun (y2 : GTable) => (wToTable y2) >>= fun (y3 : GTable) => (idx b7_0 x4) >>= fun (y4 : GTable) => (setG b7_0 x4 y3) >>= fun (y5 : (List GTable)) => wToTableS_L0 p0 (IntKind.wrap .i64 (x4 + 1)) y5) else (some b7_0)
  partial_fixpoint
def wToTableS (p0 : (List GTable)) : Option (List GTable) :=
  (mkG 40 (p0.length : Int) ((GTable.mk [] ([] : List GCol)) : GTable)) >>= fun (y1 : (List GTable)) => wToTableS_L0 p0 0 y1
def wToCatalog (p0 : GCatalog) : Option GCatalog :=
  (wToTableS p0.tables) >>= fun (y1 : (List GTable)) => some (GCatalog.mk y1)
def wToValue (p0 : GValue) : Option GValue :=
  some p0
def wToValueS_L0 (p0 : (List GValue)) (x4 : Int) (b7_0 : (List GValue)) : Option (List GValue) :=
  if (decide (x4 < (p0.length : Int))) = true then ((idx p0 x4) >>= fun (y2 : GValue) => (wToValue y2) >>= fun (y3 : GValue) => (idx b7_0 x4) >>= fun (y4 : GValue) => (setG b7_0 x4 y3) >>= fun (y5 : (List GValue)) => wToValueS_L0 p0 (IntKind.wrap .i64 (x4 + 1)) y5) else (some b7_0)
  partial_fixpoint
def wToValueS (p0 : (List GValue)) : Option (List GValue) :=
  (mkG 32 (p0.length : Int) ((GValue.mk 0 0 []) : GValue)) >>= fun (y1 : (List GValue)) => wToValueS_L0 p0 0 y1
def wToValueSS_L0 (p0 : (List (List GValue))) (x4 : Int) (b7_0 : (List (List GValue))) : Option (List (List GValue)) :=
  if (decide (x4 < (p0.length : Int))) = true then ((idx p0 x4) >>= fun (y2 : (List GValue)) => (wToValueS y2) >>= fun (y3 : (List GValue)) => (idx b7_0 x4) >>= fun (y4 : (List GValue)) => (setG b7_0 x4 y3) >>= fun (y5 : (List (List GValue))) => wToValueSS_L0 p0 (IntKind.wrap .i64 (x4 + 1)) y5) else (some b7_0)
  partial_fixpoint
def wToValueSS (p0 : (List (List GValue))) : Option (List (List GValue)) :=
  (mkG 24 (p0.length : Int) (([] : List GValue) : (List GValue))) >>= fun (y1 : (List (List GValue))) => wToValueSS_L0 p0 0 y1
def wToData (p0 : GData) : Option GData :=
  (wToValueSS p0.rows) >>= fun (y1 : (List (List GValue))) => some (GData.mk y1)
def wToDataS_L0 (p0 : (List GData)) (x4 : Int) (b7_0 : (List GData)) : Option (List GData) :=
  if (decide (x4 < (p0.length : Int))) = true then ((idx p0 x4) >>= fun (y2 : GData) => (wToData y2) >>= fun (y3 : GData) => (idx b7_0 x4) >>= fun (y4 : GData) => (setG b7_0 x4 y3) >>= fun (y5 : (List GData)) => wToDataS_L0 p0 (IntKind.wrap .i64 (x4 + 1)) y5) else (some b7_0)
  partial_fixpoint
def wToDataS (p0 : (List GData)) : Option (List GData) :=
  (mkG 24 (p0.length : Int) ((GData.mk ([] : List (List GValue))) : GData)) >>= fun (y1 : (List GData)) => wToDataS_L0 p0 0 y1
def wToDb (p0 : GDb) : Option GDb :=
  (wToDataS p0.tables) >>= fun (y1 : (List GData)) => some (GDb.mk y1)
def wFnExactDbOk (p0 : GCatalog) (p1 : GDb) : Option Bool :=
  (wSzCatalog p0 1048576) >>= fun (y1 : Int) => if (decide (y1 < 0)) = true then (some true) else ((wSzDb p1 y1) >>= fun (y2 : Int) => if (decide (y2 < 0)) = true then (some true) else ((wToCatalog p0) >>= fun (y3 : GCatalog) => (wToDb p1) >>= fun (y4 : GDb) => (sDbOk y3 y4) >>= fun (y5 : Bool) => (wToCatalog p0) >>= fun (y6 : GCatalog) => (wToDb p1) >>= fun (y7 : GDb) => (iDbOk y6 y7) >>= fun (y8 : Bool) => if (!(y8 == y5)) = true then (some false) else ((wToCatalog p0) >>= fun (y9 : GCatalog) => (wEqCatalog y6 y9) >>= fun (y10 : Bool) => if (!y10) = true then (some false) else ((wToDb p1) >>= fun (y11 : GDb) => (wEqDb y7 y11) >>= fun (y12 : Bool) => if (!y12) = true then (some false) else (some true)))))
end Go.Ab
