/- The functions of the program, as Lean functions (printed by a program). -/
import Derived.Test.YtcfkipkafnlliaaAbF0
namespace Go.Ab
open Go
structure GValue where
  kind : Int
  num : Int
  text : (List UInt8)
instance : Inhabited GValue := ⟨(GValue.mk 0 0 [])⟩
mutual
structure GExpr where
  kind : Int
  op : Int
  not_ : Bool
  value : GValue
  qual : (List UInt8)
  name : (List UInt8)
  kids : (List GExpr)
  sub : (List GQuery)
structure GItem where
  star : Bool
  qual : (List UInt8)
  expr : GExpr
  as_ : (List UInt8)
structure GQuery where
  distinct : Bool
  items : (List GItem)
  from_ : (List GSource)
  where_ : (List GExpr)
  order : (List GSortKey)
  limit : Int
structure GSortKey where
  expr : GExpr
  desc : Bool
structure GSource where
  table : (List UInt8)
  as_ : (List UInt8)
  on_ : (List GExpr)
end
instance : Inhabited GExpr := ⟨(GExpr.mk 0 0 false (GValue.mk 0 0 []) [] [] [] [])⟩
instance : Inhabited GItem := ⟨(GItem.mk false [] (GExpr.mk 0 0 false (GValue.mk 0 0 []) [] [] [] []) [])⟩
instance : Inhabited GQuery := ⟨(GQuery.mk false [] [] [] [] 0)⟩
instance : Inhabited GSortKey := ⟨(GSortKey.mk (GExpr.mk 0 0 false (GValue.mk 0 0 []) [] [] [] []) false)⟩
instance : Inhabited GSource := ⟨(GSource.mk [] [] [])⟩
structure GStmt where
  kind : Int
  query : GQuery
  table : (List UInt8)
  rows : (List (List GExpr))
  cols : (List (List UInt8))
  sets : (List GExpr)
  where_ : (List GExpr)
instance : Inhabited GStmt := ⟨(GStmt.mk 0 (GQuery.mk false [] [] [] [] 0) [] [] [] [] [])⟩
structure GL1Cur where
  b : (List Int)
  i : Int
  h : Int
instance : Inhabited GL1Cur := ⟨(GL1Cur.mk [] 0 0)⟩
def okGValue (x : GValue) : Prop := okI x.kind ∧ okI x.num ∧ okS x.text
mutual
def okGExpr : GExpr → Prop
  | ⟨a0, a1, a2, a3, a4, a5, a6, a7⟩ => okI a0 ∧ okI a1 ∧ okB a2 ∧ okGValue a3 ∧ okS a4 ∧ okS a5 ∧ (a6.length ≤ 9223372036854775807 ∧ okLGExpr a6) ∧ (a7.length ≤ 9223372036854775807 ∧ okLGQuery a7)
def okGItem : GItem → Prop
  | ⟨a0, a1, a2, a3⟩ => okB a0 ∧ okS a1 ∧ okGExpr a2 ∧ okS a3
def okGQuery : GQuery → Prop
  | ⟨a0, a1, a2, a3, a4, a5⟩ => okB a0 ∧ (a1.length ≤ 9223372036854775807 ∧ okLGItem a1) ∧ (a2.length ≤ 9223372036854775807 ∧ okLGSource a2) ∧ (a3.length ≤ 9223372036854775807 ∧ okLGExpr a3) ∧ (a4.length ≤ 9223372036854775807 ∧ okLGSortKey a4) ∧ okI a5
def okGSortKey : GSortKey → Prop
  | ⟨a0, a1⟩ => okGExpr a0 ∧ okB a1
def okGSource : GSource → Prop
  | ⟨a0, a1, a2⟩ => okS a0 ∧ okS a1 ∧ (a2.length ≤ 9223372036854775807 ∧ okLGExpr a2)
def okLGExpr : List GExpr → Prop
  | [] => True
  | x :: l => okGExpr x ∧ okLGExpr l
def okLGItem : List GItem → Prop
  | [] => True
  | x :: l => okGItem x ∧ okLGItem l
def okLGQuery : List GQuery → Prop
  | [] => True
  | x :: l => okGQuery x ∧ okLGQuery l
def okLGSortKey : List GSortKey → Prop
  | [] => True
  | x :: l => okGSortKey x ∧ okLGSortKey l
def okLGSource : List GSource → Prop
  | [] => True
  | x :: l => okGSource x ∧ okLGSource l
end
def okGStmt (x : GStmt) : Prop := okI x.kind ∧ okGQuery x.query ∧ okS x.table ∧ (okL (okL okGExpr)) x.rows ∧ (okL okS) x.cols ∧ (okL okGExpr) x.sets ∧ (okL okGExpr) x.where_
def okGL1Cur (x : GL1Cur) : Prop := (okL okU8) x.b ∧ okI x.i ∧ okI x.h
mutual
def iCopyQuery_X_L2 (p0 : GQuery) (b60066001_0 : (List GSource)) (b60024000_0 : (List GItem)) (y1 : (List GExpr)) (x57 : Int) (b60108003_0 : (List GSortKey)) : Option GQuery :=
  if (decide (x57 < (p0.order.length : Int))) = true then ((idx p0.order x57) >>= fun (y8 : GSortKey) => (iCopyExpr_X y8.expr) >>= fun (y9 : GExpr) => (appG 144 b60108003_0 ([(GSortKey.mk y9 y8.desc)] : List GSortKey)) >>= fun (y10 : (List GSortKey)) => iCopyQuery_X_L2 p0 b60066001_0 b60024000_0 y1 (IntKind.wrap .i64 (x57 + 1)) y10) else (some (GQuery.mk p0.distinct b60024000_0 b60066001_0 y1 b60108003_0 p0.limit))
  partial_fixpoint
def iCopyQuery_X_L1 (p0 : GQuery) (b60024000_0 : (List GItem)) (y1 : (List GExpr)) (x39 : Int) (b60066001_0 : (List GSource)) : Option GQuery :=
  if (decide (x39 < (p0.from_.length : Int))) = true then ((idx p0.from_ x39) >>= fun (y5 : GSource) => (iCopyExprs_X y5.on_) >>= fun (y6 : (List GExpr)) => (appG 56 b60066001_0 ([(GSource.mk y5.table y5.as_ y6)] : List GSource)) >>= fun (y7 : (List GSource)) => iCopyQuery_X_L1 p0 b60024000_0 y1 (IntKind.wrap .i64 (x39 + 1)) y7) else (iCopyQuery_X_L2 p0 b60066001_0 b60024000_0 y1 0 ([] : List GSortKey))
  partial_fixpoint
def iCopyQuery_X_L0 (p0 : GQuery) (y1 : (List GExpr)) (x21 : Int) (b60024000_0 : (List GItem)) : Option GQuery :=
  if (decide (x21 < (p0.items.length : Int))) = true then ((idx p0.items x21) >>= fun (y2 : GItem) => (iCopyExpr_X y2.expr) >>= fun (y3 : GExpr) => (appG 176 b60024000_0 ([(GItem.mk y2.star y2.qual y3 y2.as_)] : List GItem)) >>= fun (y4 : (List GItem)) => iCopyQuery_X_L0 p0 y1 (IntKind.wrap .i64 (x21 + 1)) y4) else (iCopyQuery_X_L1 p0 b60024000_0 y1 0 ([] : List GSource))
  partial_fixpoint
def iCopyExprs_X_L0 (p0 : (List GExpr)) (x11 : Int) (b60025000_0 : (List GExpr)) : Option (List GExpr) :=
  if (decide (x11 < (p0.length : Int))) = true then ((idx p0 x11) >>= fun (y1 : GExpr) => (iCopyExpr_X y1) >>= fun (y2 : GExpr) => (appG 136 b60025000_0 ([y2] : List GExpr)) >>= fun (y3 : (List GExpr)) => iCopyExprs_X_L0 p0 (IntKind.wrap .i64 (x11 + 1)) y3) else (some b60025000_0)
  partial_fixpoint
def iCopyExprs_X (p0 : (List GExpr)) : Option (List GExpr) :=
  if (decide ((p0.length : Int) = 0)) = true then (some ([] : List GExpr)) else (iCopyExprs_X_L0 p0 0 ([] : List GExpr))
  partial_fixpoint
def iCopyQuery_X (p0 : GQuery) : Option GQuery :=
  (iCopyExprs_X p0.where_) >>= fun (y1 : (List GExpr)) => iCopyQuery_X_L0 p0 y1 0 ([] : List GItem)
  partial_fixpoint
def iCopyExpr_X_L0 (p0 : GExpr) (y1 : (List GExpr)) (x14 : Int) (b60023000_0 : (List GQuery)) : Option GExpr :=
  if (decide (x14 < (p0.sub.length : Int))) = true then ((idx p0.sub x14) >>= fun (y2 : GQuery) => (iCopyQuery_X y2) >>= fun (y3 : GQuery) => (appG 112 b60023000_0 ([y3] : List GQuery)) >>= fun (y4 : (List GQuery)) => iCopyExpr_X_L0 p0 y1 (IntKind.wrap .i64 (x14 + 1)) y4) else (some (GExpr.mk p0.kind p0.op p0.not_ p0.value p0.qual p0.name y1 b60023000_0))
  partial_fixpoint
def iCopyExpr_X (p0 : GExpr) : Option GExpr :=
  (iCopyExprs_X p0.kids) >>= fun (y1 : (List GExpr)) => iCopyExpr_X_L0 p0 y1 0 ([] : List GQuery)
  partial_fixpoint
end
def iCopyExprs_L0 (p0 : (List GExpr)) (x11 : Int) (b60025000_0 : (List GExpr)) : Option (List GExpr) :=
  if (decide (x11 < (p0.length : Int))) = true then ((idx p0 x11) >>= fun (y1 : GExpr) => (iCopyExpr_X y1) >>= fun (y2 : GExpr) => (appG 136 b60025000_0 ([y2] : List GExpr)) >>= fun (y3 : (List GExpr)) => iCopyExprs_L0 p0 (IntKind.wrap .i64 (x11 + 1)) y3) else (some b60025000_0)
  partial_fixpoint
def iCopyExprs (p0 : (List GExpr)) : Option (List GExpr) :=
  if (decide ((p0.length : Int) = 0)) = true then (some ([] : List GExpr)) else (iCopyExprs_L0 p0 0 ([] : List GExpr))
def iExprsOf_L0 (p0 : GStmt) (x3 : (List GExpr)) (x12 : Int) : Option (List GExpr) :=
  if (decide (x12 < (p0.rows.length : Int))) = true then ((idx p0.rows x12) >>= fun (y2 : (List GExpr)) => (appG 136 x3 y2) >>= fun (y3 : List GExpr) => iExprsOf_L0 p0 y3 (IntKind.wrap .i64 (x12 + 1))) else ((appG 136 x3 p0.sets) >>= fun (y4 : List GExpr) => (appG 136 y4 p0.where_) >>= fun (y5 : List GExpr) => (iCopyExprs y5) >>= fun (y6 : (List GExpr)) => some y6)
  partial_fixpoint
def iQuery_exprs_L3 (p0 : GQuery) (x3_8 : (List GExpr)) (x46 : Int) : Option (List GExpr) :=
  if (decide (x46 < (p0.order.length : Int))) = true then ((idx p0.order x46) >>= fun (y9 : GSortKey) => (appG 136 x3_8 ([y9.expr] : List GExpr)) >>= fun (y10 : List GExpr) => iQuery_exprs_L3 p0 y10 (IntKind.wrap .i64 (x46 + 1))) else (some x3_8)
  partial_fixpoint
def iQuery_exprs_L2 (p0 : GQuery) (x3_4 : (List GExpr)) (x30 : Int) : Option (List GExpr) :=
  if (decide (x30 < (p0.from_.length : Int))) = true then ((idx p0.from_ x30) >>= fun (y5 : GSource) => (appG 136 x3_4 y5.on_) >>= fun (y6 : List GExpr) => iQuery_exprs_L2 p0 y6 (IntKind.wrap .i64 (x30 + 1))) else ((appG 136 x3_4 p0.where_) >>= fun (y7 : List GExpr) => iQuery_exprs_L3 p0 y7 0)
  partial_fixpoint
mutual
def iQuery_exprs_J1 (p0 : GQuery) (x14 : Int) (x3_3 : (List GExpr)) : Option (List GExpr) :=
  iQuery_exprs_L0 p0 x3_3 (IntKind.wrap .i64 (x14 + 1))
  partial_fixpoint
def iQuery_exprs_L0 (p0 : GQuery) (x3 : (List GExpr)) (x14 : Int) : Option (List GExpr) :=
  if (decide (x14 < (p0.items.length : Int))) = true then ((idx p0.items x14) >>= fun (y1 : GItem) => if (!y1.star) = true then ((appG 136 x3 ([y1.expr] : List GExpr)) >>= fun (y2 : List GExpr) => iQuery_exprs_J1 p0 x14 y2) else (iQuery_exprs_J1 p0 x14 x3)) else (iQuery_exprs_L2 p0 x3 0)
  partial_fixpoint
end
def iQuery_exprs (p0 : GQuery) : Option (List GExpr) :=
  iQuery_exprs_L0 p0 ([] : List GExpr) 0
def iExprsOf (p0 : GStmt) : Option (List GExpr) :=
  (iQuery_exprs p0.query) >>= fun (y1 : (List GExpr)) => iExprsOf_L0 p0 y1 0
def sL1Byte_J0 (p0 : GL1Cur) (x3 : Int) (b1000000_1 : Int) : Option (Int × GL1Cur) :=
  some (x3, (GL1Cur.mk p0.b b1000000_1 (IntKind.wrap .i64 ((IntKind.wrap .i64 (p0.h * 6364136223846793005)) + 1442695040888963407))))
def sL1Byte (p0 : GL1Cur) : Option (Int × GL1Cur) :=
  if (decide (p0.i < (p0.b.length : Int))) = true then ((idx p0.b p0.i) >>= fun (y1 : Int) => sL1Byte_J0 p0 (IntKind.wrap .i64 ((BitVec.ofInt (IntKind.bits .i64) (IntKind.wrap .i64 ((IntKind.wrap .i64 ((BitVec.ofInt (IntKind.bits .i64) (IntKind.wrap .i64 ((BitVec.ofInt (IntKind.bits .i64) (Int.fdiv (IntKind.wrap .i64 ((IntKind.wrap .i64 (p0.h * 6364136223846793005)) + 1442695040888963407)) (2 ^ 33)) ^^^ BitVec.ofInt (IntKind.bits .i64) (Int.fdiv (IntKind.wrap .i64 ((IntKind.wrap .i64 (p0.h * 6364136223846793005)) + 1442695040888963407)) (2 ^ 45))).toNat : Int)) &&& BitVec.ofInt (IntKind.bits .i64) 255).toNat : Int)) + (IntKind.wrap .i64 y1))) &&& BitVec.ofInt (IntKind.bits .i64) 255).toNat : Int)) (IntKind.wrap .i64 (p0.i + 1))) else (sL1Byte_J0 p0 (IntKind.wrap .i64 ((BitVec.ofInt (IntKind.bits .i64) (IntKind.wrap .i64 ((BitVec.ofInt (IntKind.bits .i64) (Int.fdiv (IntKind.wrap .i64 ((IntKind.wrap .i64 (p0.h * 6364136223846793005)) + 1442695040888963407)) (2 ^ 33)) ^^^ BitVec.ofInt (IntKind.bits .i64) (Int.fdiv (IntKind.wrap .i64 ((IntKind.wrap .i64 (p0.h * 6364136223846793005)) + 1442695040888963407)) (2 ^ 45))).toNat : Int)) &&& BitVec.ofInt (IntKind.bits .i64) 255).toNat : Int)) p0.i)
def sL1Below (p0 : GL1Cur) (p1 : Int) : Option (Int × GL1Cur) :=
  if (decide (p1 ≤ 0)) = true then (some (0, p0)) else (if (decide (p1 ≤ 256)) = true then ((sL1Byte p0) >>= fun (y1 : Int × GL1Cur) => (remG y1.1 p1) >>= fun (y2 : Int) => some (y2, y1.2)) else ((sL1Byte p0) >>= fun (y3 : Int × GL1Cur) => (sL1Byte y3.2) >>= fun (y4 : Int × GL1Cur) => (sL1Byte y4.2) >>= fun (y5 : Int × GL1Cur) => (sL1Byte y5.2) >>= fun (y6 : Int × GL1Cur) => (remG (IntKind.wrap .i64 ((IntKind.wrap .i64 ((IntKind.wrap .i64 ((IntKind.wrap .i64 (y3.1 * 16777216)) + (IntKind.wrap .i64 (y4.1 * 65536)))) + (IntKind.wrap .i64 (y5.1 * 256)))) + y6.1)) p1) >>= fun (y7 : Int) => some (y7, y6.2)))
def sL1New_L0 (p0 : (List Int)) (x3 : Int) (x4 : Int) : Option GL1Cur :=
  (some (if (decide (x4 < (p0.length : Int))) = true then (decide (x4 < 4000)) else false)) >>= fun (y1 : Bool) => if y1 = true then ((idx p0 x4) >>= fun (y2 : Int) => sL1New_L0 p0 (IntKind.wrap .i64 ((BitVec.ofInt (IntKind.bits .i64) (IntKind.wrap .i64 ((IntKind.wrap .i64 ((IntKind.wrap .i64 (x3 * 131)) + (IntKind.wrap .i64 y2))) + 7)) &&& BitVec.ofInt (IntKind.bits .i64) 1073741823).toNat : Int)) (IntKind.wrap .i64 (x4 + 1))) else (some (GL1Cur.mk p0 0 x3))
  partial_fixpoint
def sL1New (p0 : (List Int)) : Option GL1Cur :=
  sL1New_L0 p0 (IntKind.wrap .i64 (28322 + (p0.length : Int))) 0
def sL1Size (p0 : (List Int)) (p1 : Int) : Option Int :=
  if (decide (p1 < (IntKind.wrap .i64 (2 + (IntKind.wrap .i64 (Int.tdiv (p0.length : Int) 20)))))) = true then (some p1) else (some (IntKind.wrap .i64 (2 + (IntKind.wrap .i64 (Int.tdiv (p0.length : Int) 20)))))
def sL1Bytes_L0 (p1 : Int) (x5 : (List Int)) (x6 : Int) (b1000000_0 : (List Int)) (b1000000_1 : Int) (b1000000_2 : Int) : Option ((List Int) × GL1Cur) :=
  if (decide (x6 < p1)) = true then ((sL1Byte (GL1Cur.mk b1000000_0 b1000000_1 b1000000_2)) >>= fun (y1 : Int × GL1Cur) => (appG 1 x5 ([(IntKind.wrap .u8 y1.1)] : List Int)) >>= fun (y2 : List Int) => sL1Bytes_L0 p1 y2 (IntKind.wrap .i64 (x6 + 1)) y1.2.b y1.2.i y1.2.h) else (some (x5, (GL1Cur.mk b1000000_0 b1000000_1 b1000000_2)))
  partial_fixpoint
def sL1Bytes (p0 : GL1Cur) (p1 : Int) : Option ((List Int) × GL1Cur) :=
  sL1Bytes_L0 p1 ([] : List Int) 0 p0.b p0.i p0.h
def sL1Pick (p0 : GL1Cur) (p1 : (List (List UInt8))) : Option ((List UInt8) × GL1Cur) :=
  (sL1Below p0 (p1.length : Int)) >>= fun (y1 : Int × GL1Cur) => (idx p1 y1.1) >>= fun (y2 : (List UInt8)) => some (y2, y1.2)
def sL1Once (p0 : GL1Cur) (p1 : Int) : Option (Bool × GL1Cur) :=
  (sL1Below p0 p1) >>= fun (y1 : Int × GL1Cur) => some ((decide (y1.1 = 0)), y1.2)
def sL2Name (p0 : GL1Cur) : Option ((List UInt8) × GL1Cur) :=
  (sL1Once p0 6) >>= fun (y1 : Bool × GL1Cur) => if y1.1 = true then ((sL1Pick y1.2 ([[97, 32, 98], [102, 114, 111, 109], [83, 101, 108, 101, 99, 116], [49, 120], [113, 34, 113], [0], [34], [105, 116, 39, 115], [120, 46, 121], [45]] : List (List UInt8))) >>= fun (y2 : (List UInt8) × GL1Cur) => some (y2.1, y2.2)) else ((sL1Pick y1.2 ([[97], [98], [99], [116], [117], [118], [105, 100], [110, 97, 109, 101], [65], [95, 120, 49]] : List (List UInt8))) >>= fun (y3 : (List UInt8) × GL1Cur) => some (y3.1, y3.2))
def sL2Words : Option (List (List UInt8)) :=
  some ([[], [83, 69, 76, 69, 67, 84], [68, 73, 83, 84, 73, 78, 67, 84], [70, 82, 79, 77], [74, 79, 73, 78], [79, 78], [87, 72, 69, 82, 69], [79, 82, 68, 69, 82], [66, 89], [65, 83, 67], [68, 69, 83, 67], [76, 73, 77, 73, 84], [65, 83], [65, 78, 68], [79, 82], [78, 79, 84], [73, 83], [73, 78], [66, 69, 84, 87, 69, 69, 78], [69, 88, 73, 83, 84, 83], [78, 85, 76, 76], [84, 82, 85, 69], [70, 65, 76, 83, 69], [73, 78, 83, 69, 82, 84], [73, 78, 84, 79], [86, 65, 76, 85, 69, 83], [85, 80, 68, 65, 84, 69], [83, 69, 84], [68, 69, 76, 69, 84, 69]] : List (List UInt8))
def sL2Any (p0 : GL1Cur) : Option ((List UInt8) × GL1Cur) :=
  (sL1Below p0 6) >>= fun (y1 : Int × GL1Cur) => if (decide (y1.1 = 0)) = true then ((sL1Pick y1.2 ([[], [97, 98, 99, 100, 101, 102, 103, 104, 105, 106, 107, 108, 109, 110, 111, 112, 113, 114, 115, 116], [97, 98, 99, 100, 101, 102, 103, 104, 105, 106, 107, 108, 109, 110, 111, 112, 113, 114, 115, 116, 117], [108, 105, 109, 105, 116], [76, 73, 77, 73, 84, 83], [65, 83, 99], [57], [97, 57], [195, 169]] : List (List UInt8))) >>= fun (y2 : (List UInt8) × GL1Cur) => some (y2.1, y2.2)) else (if (decide (y1.1 = 1)) = true then ((sL2Words) >>= fun (y3 : (List (List UInt8))) => (sL1Below y1.2 29) >>= fun (y4 : Int × GL1Cur) => (idx y3 y4.1) >>= fun (y5 : (List UInt8)) => some (y5, y4.2)) else (if (decide (y1.1 = 2)) = true then ((sL1Below y1.2 5) >>= fun (y6 : Int × GL1Cur) => (sL1Bytes y6.2 y6.1) >>= fun (y7 : (List Int) × GL1Cur) => (ofBytes y7.1) >>= fun (y8 : (List UInt8)) => some (y8, y7.2)) else ((sL2Name y1.2) >>= fun (y9 : (List UInt8) × GL1Cur) => some (y9.1, y9.2))))
def sL1PickInt (p0 : GL1Cur) (p1 : (List Int)) : Option (Int × GL1Cur) :=
  (sL1Below p0 (p1.length : Int)) >>= fun (y1 : Int × GL1Cur) => (idx p1 y1.1) >>= fun (y2 : Int) => some (y2, y1.2)
def sL1Whole (p0 : GL1Cur) : Option (Int × GL1Cur) :=
  (sL1Below p0 3) >>= fun (y1 : Int × GL1Cur) => if (decide (y1.1 = 0)) = true then ((sL1PickInt y1.2 ([0, 1, (-1), 63, 64, (-64), (-65), 127, 128, 16383, 16384, 9223372036854775807, (-9223372036854775808), 4611686018427387904] : List Int)) >>= fun (y2 : Int × GL1Cur) => some (y2.1, y2.2)) else (if (decide (y1.1 = 1)) = true then ((sL1Below y1.2 1000000) >>= fun (y3 : Int × GL1Cur) => some ((IntKind.wrap .i64 (y3.1 - 500000)), y3.2)) else ((sL1Below y1.2 20) >>= fun (y4 : Int × GL1Cur) => some (y4.1, y4.2)))
def sL5Bent_J0 (b3_0 : Int) (b3_1 : Int) (b3_2 : (List UInt8)) (b1000000_0 : (List Int)) (b1000000_1 : Int) (b1000000_2 : Int) : Option (GValue × GL1Cur) :=
  some ((GValue.mk b3_0 b3_1 b3_2), (GL1Cur.mk b1000000_0 b1000000_1 b1000000_2))
def sL5Bent_L1 (y1 : GValue × GL1Cur) (b3_2_6 : (List UInt8)) (b1000000_0_7 : (List Int)) (b1000000_1_8 : Int) (b1000000_2_9 : Int) : Option (GValue × GL1Cur) :=
  (sL1Once (GL1Cur.mk b1000000_0_7 b1000000_1_8 b1000000_2_9) 2) >>= fun (y10 : Bool × GL1Cur) => (some (if y10.1 = true then (decide ((b3_2_6.length : Int) < 400)) else false)) >>= fun (y11 : Bool) => if y11 = true then ((catS b3_2_6 b3_2_6) >>= fun (y12 : (List UInt8)) => (catS y12 [48, 49, 50, 51, 52, 53, 54, 55, 56, 57]) >>= fun (y13 : (List UInt8)) => sL5Bent_L1 y1 y13 y10.2.b y10.2.i y10.2.h) else (sL5Bent_J0 y1.1.kind y1.1.num b3_2_6 y10.2.b y10.2.i y10.2.h)
  partial_fixpoint
def sBoolValue (p0 : Bool) : Option GValue :=
  if p0 = true then (some (GValue.mk 3 1 [])) else (some (GValue.mk 3 0 []))
def sIntValue (p0 : Int) : Option GValue :=
  some (GValue.mk 1 p0 [])
def sTextValue (p0 : (List UInt8)) : Option GValue :=
  some (GValue.mk 2 0 p0)
def sL5Right (p0 : GL1Cur) : Option (GValue × GL1Cur) :=
  (sL1Below p0 6) >>= fun (y1 : Int × GL1Cur) => if (decide (y1.1 = 0)) = true then (some ((GValue.mk 0 0 []), y1.2)) else (if (decide (y1.1 = 1)) = true then ((sL1Pick y1.2 ([[], [97], [98], [105, 116, 39, 115], [97, 98], [255]] : List (List UInt8))) >>= fun (y2 : (List UInt8) × GL1Cur) => (sTextValue y2.1) >>= fun (y3 : GValue) => some (y3, y2.2)) else (if (decide (y1.1 = 2)) = true then ((sL1Once y1.2 2) >>= fun (y4 : Bool × GL1Cur) => (sBoolValue y4.1) >>= fun (y5 : GValue) => some (y5, y4.2)) else (if (decide (y1.1 = 3)) = true then ((sL1Whole y1.2) >>= fun (y6 : Int × GL1Cur) => (sIntValue y6.1) >>= fun (y7 : GValue) => some (y7, y6.2)) else ((sL1Below y1.2 7) >>= fun (y8 : Int × GL1Cur) => (sIntValue (IntKind.wrap .i64 (y8.1 - 2))) >>= fun (y9 : GValue) => some (y9, y8.2)))))
def sL5Bent (p0 : GL1Cur) : Option (GValue × GL1Cur) :=
  (sL5Right p0) >>= fun (y1 : GValue × GL1Cur) => (sL1Below y1.2 14) >>= fun (y2 : Int × GL1Cur) => if (decide (y2.1 = 0)) = true then ((sL1Below y2.2 6) >>= fun (y3 : Int × GL1Cur) => sL5Bent_J0 (IntKind.wrap .i64 (y3.1 - 1)) y1.1.num y1.1.text y3.2.b y3.2.i y3.2.h) else (if (decide (y2.1 = 1)) = true then ((sL1Whole y2.2) >>= fun (y4 : Int × GL1Cur) => sL5Bent_J0 y1.1.kind y4.1 y1.1.text y4.2.b y4.2.i y4.2.h) else (if (decide (y2.1 = 2)) = true then ((sL1Pick y2.2 ([[120], [], [108, 111, 110, 103]] : List (List UInt8))) >>= fun (y5 : (List UInt8) × GL1Cur) => sL5Bent_L1 y1 y5.1 y5.2.b y5.2.i y5.2.h) else (sL5Bent_J0 y1.1.kind y1.1.num y1.1.text y2.2.b y2.2.i y2.2.h)))
def sL7Bent_X_J0 (b3_0 : Int) (b3_1 : Int) (b3_2 : Bool) (b3_3 : Int) (b3_4 : Int) (b3_5 : (List UInt8)) (b3_6 : (List UInt8)) (b3_7 : (List UInt8)) (b1000000_0 : (List Int)) (b1000000_1 : Int) (b1000000_2 : Int) (b60135000_0 : (List GExpr)) (b60135001_0 : (List GQuery)) : Option (GExpr × GL1Cur) :=
  some ((GExpr.mk b3_0 b3_1 b3_2 (GValue.mk b3_3 b3_4 b3_5) b3_6 b3_7 b60135000_0 b60135001_0), (GL1Cur.mk b1000000_0 b1000000_1 b1000000_2))
def sL7Col_X_J1 (b3_6 : (List UInt8)) (b3_7 : (List UInt8)) (b1000000_0_6 : (List Int)) (b1000000_1_7 : Int) (b1000000_2_8 : Int) : Option (GExpr × GL1Cur) :=
  some ((GExpr.mk 2 0 false (GValue.mk 0 0 []) b3_6 b3_7 ([] : List GExpr) ([] : List GQuery)), (GL1Cur.mk b1000000_0_6 b1000000_1_7 b1000000_2_8))
def sL7Col_X_J0 (y1 : (List UInt8) × GL1Cur) (b3_6 : (List UInt8)) (b1000000_0 : (List Int)) (b1000000_1 : Int) (b1000000_2 : Int) : Option (GExpr × GL1Cur) :=
  (sL1Once (GL1Cur.mk b1000000_0 b1000000_1 b1000000_2) 12) >>= fun (y4 : Bool × GL1Cur) => if y4.1 = true then ((sL2Name y4.2) >>= fun (y5 : (List UInt8) × GL1Cur) => sL7Col_X_J1 b3_6 y5.1 y5.2.b y5.2.i y5.2.h) else (sL7Col_X_J1 b3_6 y1.1 y4.2.b y4.2.i y4.2.h)
def sL7Col_X (p0 : GL1Cur) : Option (GExpr × GL1Cur) :=
  (sL1Pick p0 ([[97], [98], [99], [105, 100], [110, 97, 109, 101]] : List (List UInt8))) >>= fun (y1 : (List UInt8) × GL1Cur) => (sL1Once y1.2 3) >>= fun (y2 : Bool × GL1Cur) => if y2.1 = true then ((sL1Pick y2.2 ([[116], [117], [118]] : List (List UInt8))) >>= fun (y3 : (List UInt8) × GL1Cur) => sL7Col_X_J0 y1 y3.1 y3.2.b y3.2.i y3.2.h) else (sL7Col_X_J0 y1 [] y2.2.b y2.2.i y2.2.h)
def sL7Bent_X (p0 : GL1Cur) (p1 : GExpr) : Option (GExpr × GL1Cur) :=
  (if (true && ((decide (0 < (p1.kids.length : Int))) == true)) = true then sL1Once p0 2 else some ((default : Bool), p0)) >>= fun (y1 : Bool × GL1Cur) => (some (if (decide (0 < (p1.kids.length : Int))) = true then y1.1 else false)) >>= fun (y2 : Bool) => if y2 = true then ((sL1Below y1.2 (p1.kids.length : Int)) >>= fun (y3 : Int × GL1Cur) => (idx p1.kids y3.1) >>= fun (y4 : GExpr) => (sL7Bent_X y3.2 y4) >>= fun (y5 : GExpr × GL1Cur) => some ((GExpr.mk p1.kind p1.op p1.not_ p1.value p1.qual p1.name (p1.kids.set (y3.1).toNat y5.1) p1.sub), y5.2)) else ((sL1Below y1.2 8) >>= fun (y6 : Int × GL1Cur) => if (decide (y6.1 = 0)) = true then ((sL1Below y6.2 12) >>= fun (y7 : Int × GL1Cur) => sL7Bent_X_J0 (IntKind.wrap .i64 (y7.1 - 1)) p1.op p1.not_ p1.value.kind p1.value.num p1.value.text p1.qual p1.name y7.2.b y7.2.i y7.2.h p1.kids p1.sub) else (if (decide (y6.1 = 1)) = true then ((sL1PickInt y6.2 ([0, 1, 14, 15, 16, 17, (-1)] : List Int)) >>= fun (y8 : Int × GL1Cur) => sL7Bent_X_J0 p1.kind y8.1 p1.not_ p1.value.kind p1.value.num p1.value.text p1.qual p1.name y8.2.b y8.2.i y8.2.h p1.kids p1.sub) else (if (decide (y6.1 = 2)) = true then (sL7Bent_X_J0 p1.kind p1.op (!p1.not_) p1.value.kind p1.value.num p1.value.text p1.qual p1.name y6.2.b y6.2.i y6.2.h p1.kids p1.sub) else (if (decide (y6.1 = 3)) = true then ((sL5Bent y6.2) >>= fun (y9 : GValue × GL1Cur) => sL7Bent_X_J0 p1.kind p1.op p1.not_ y9.1.kind y9.1.num y9.1.text p1.qual p1.name y9.2.b y9.2.i y9.2.h p1.kids p1.sub) else (if (decide (y6.1 = 4)) = true then ((sL2Any y6.2) >>= fun (y10 : (List UInt8) × GL1Cur) => sL7Bent_X_J0 p1.kind p1.op p1.not_ p1.value.kind p1.value.num p1.value.text p1.qual y10.1 y10.2.b y10.2.i y10.2.h p1.kids p1.sub) else (if (decide (y6.1 = 5)) = true then ((sL2Any y6.2) >>= fun (y11 : (List UInt8) × GL1Cur) => sL7Bent_X_J0 p1.kind p1.op p1.not_ p1.value.kind p1.value.num p1.value.text y11.1 p1.name y11.2.b y11.2.i y11.2.h p1.kids p1.sub) else (if (decide (y6.1 = 6)) = true then ((sL7Col_X y6.2) >>= fun (y12 : GExpr × GL1Cur) => (appG 136 p1.kids ([y12.1] : List GExpr)) >>= fun (y13 : (List GExpr)) => sL7Bent_X_J0 p1.kind p1.op p1.not_ p1.value.kind p1.value.num p1.value.text p1.qual p1.name y12.2.b y12.2.i y12.2.h y13 p1.sub) else ((appG 112 p1.sub ([(GQuery.mk false ([] : List GItem) ([] : List GSource) ([] : List GExpr) ([] : List GSortKey) 0)] : List GQuery)) >>= fun (y14 : (List GQuery)) => sL7Bent_X_J0 p1.kind p1.op p1.not_ p1.value.kind p1.value.num p1.value.text p1.qual p1.name y6.2.b y6.2.i y6.2.h p1.kids y14))))))))
  partial_fixpoint
def sL7Deep_X_L0 (y2 : Int × GL1Cur) (x5 : Int) (b3_0 : Int) (b3_1 : Int) (b3_2 : Bool) (b3_3 : Int) (b3_4 : Int) (kb3_5 : ((List UInt8) × ((List UInt8) × ((List UInt8) × ((List GExpr) × (List GQuery)))))) : Option (GExpr × GL1Cur) :=
  if (decide (x5 < (IntKind.wrap .i64 (22 + y2.1)))) = true then (sL7Deep_X_L0 y2 (IntKind.wrap .i64 (x5 + 1)) 3 16 false 0 0 ([], ([], ([], (([(GExpr.mk b3_0 b3_1 b3_2 (GValue.mk b3_3 b3_4 kb3_5.1) kb3_5.2.1 kb3_5.2.2.1 kb3_5.2.2.2.1 kb3_5.2.2.2.2)] : List GExpr), ([] : List GQuery)))))) else (some ((GExpr.mk b3_0 b3_1 b3_2 (GValue.mk b3_3 b3_4 kb3_5.1) kb3_5.2.1 kb3_5.2.2.1 kb3_5.2.2.2.1 kb3_5.2.2.2.2), y2.2))
  partial_fixpoint
def sL7Deep_X (p0 : GL1Cur) : Option (GExpr × GL1Cur) :=
  (sL7Col_X p0) >>= fun (y1 : GExpr × GL1Cur) => (sL1Below y1.2 3) >>= fun (y2 : Int × GL1Cur) => sL7Deep_X_L0 y2 0 y1.1.kind y1.1.op y1.1.not_ y1.1.value.kind y1.1.value.num (y1.1.value.text, (y1.1.qual, (y1.1.name, (y1.1.kids, y1.1.sub))))
def sL7Query_X_J8 (y1 : Bool × GL1Cur) (b60206003_0 : (List GSortKey)) (b60206002_0 : (List GExpr)) (b60186001_0 : (List GSource)) (b60021000_0 : (List GItem)) (b5_5 : Int) (b1000000_0_48 : (List Int)) (b1000000_1_49 : Int) (b1000000_2_50 : Int) : Option (GQuery × GL1Cur) :=
  some ((GQuery.mk y1.1 b60021000_0 b60186001_0 b60206002_0 b60206003_0 b5_5), (GL1Cur.mk b1000000_0_48 b1000000_1_49 b1000000_2_50))
def sL7Query_X_J7 (y1 : Bool × GL1Cur) (b60186001_0 : (List GSource)) (b60021000_0 : (List GItem)) (b1000000_0_42 : (List Int)) (b1000000_1_43 : Int) (b1000000_2_44 : Int) (b60206003_0 : (List GSortKey)) (b60206002_0 : (List GExpr)) : Option (GQuery × GL1Cur) :=
  (sL1Once (GL1Cur.mk b1000000_0_42 b1000000_1_43 b1000000_2_44) 4) >>= fun (y46 : Bool × GL1Cur) => if y46.1 = true then ((sL1PickInt y46.2 ([0, 1, 2, 9223372036854775807] : List Int)) >>= fun (y47 : Int × GL1Cur) => sL7Query_X_J8 y1 b60206003_0 b60206002_0 b60186001_0 b60021000_0 y47.1 y47.2.b y47.2.i y47.2.h) else (sL7Query_X_J8 y1 b60206003_0 b60206002_0 b60186001_0 b60021000_0 (-1) y46.2.b y46.2.i y46.2.h)
def sL7Value_J0 (y1 : GValue × GL1Cur) (b3_1 : Int) : Option (GValue × GL1Cur) :=
  some ((GValue.mk y1.1.kind b3_1 y1.1.text), y1.2)
def sL7Value (p0 : GL1Cur) : Option (GValue × GL1Cur) :=
  (sL5Right p0) >>= fun (y1 : GValue × GL1Cur) => (some (if (decide (y1.1.kind = 1)) = true then (decide (y1.1.num < 0)) else false)) >>= fun (y2 : Bool) => if y2 = true then (sL7Value_J0 y1 9223372036854775807) else (sL7Value_J0 y1 y1.1.num)
mutual
def sL7Query_X_J5 (p1 : Int) (y1 : Bool × GL1Cur) (b60021000_0 : (List GItem)) (b1000000_0_29 : (List Int)) (b1000000_1_30 : Int) (b1000000_2_31 : Int) (kb60186002_0 : ((List GExpr) × (List GSource))) : Option (GQuery × GL1Cur) :=
  (sL1Once (GL1Cur.mk b1000000_0_29 b1000000_1_30 b1000000_2_31) 3) >>= fun (y38 : Bool × GL1Cur) => if y38.1 = true then ((sL7Expr_X y38.2 p1) >>= fun (y39 : GExpr × GL1Cur) => (sL1Once y39.2 2) >>= fun (y40 : Bool × GL1Cur) => (appG 144 ([] : List GSortKey) ([(GSortKey.mk y39.1 y40.1)] : List GSortKey)) >>= fun (y41 : (List GSortKey)) => sL7Query_X_J7 y1 kb60186002_0.2 b60021000_0 y40.2.b y40.2.i y40.2.h y41 kb60186002_0.1) else (sL7Query_X_J7 y1 kb60186002_0.2 b60021000_0 y38.2.b y38.2.i y38.2.h ([] : List GSortKey) kb60186002_0.1)
  partial_fixpoint
def sL7Query_X_J6 (p1 : Int) (y16 : Int × GL1Cur) (x9 : Int) (y1 : Bool × GL1Cur) (y21 : (List UInt8) × GL1Cur) (b10_1 : (List UInt8)) (kb60021000_0q : ((List GItem) × ((List Int) × (Int × (Int × ((List GExpr) × (List GSource))))))) : Option (GQuery × GL1Cur) :=
  (appG 56 kb60021000_0q.2.2.2.2.2 ([(GSource.mk y21.1 b10_1 kb60021000_0q.2.2.2.2.1)] : List GSource)) >>= fun (y45 : (List GSource)) => sL7Query_X_L3 p1 y16 y1 kb60021000_0q.1 (IntKind.wrap .i64 (x9 + 1)) kb60021000_0q.2.1 (kb60021000_0q.2.2.1, (kb60021000_0q.2.2.2.1, y45))
  partial_fixpoint
def sL7Query_X_J4 (p1 : Int) (y16 : Int × GL1Cur) (x9 : Int) (y1 : Bool × GL1Cur) (y21 : (List UInt8) × GL1Cur) (b60110001_0 : (List GSource)) (kb60021000_0 : ((List GItem) × ((List UInt8) × ((List Int) × (Int × Int))))) : Option (GQuery × GL1Cur) :=
  (if (true && ((decide (0 < x9)) == true)) = true then sL1Once (GL1Cur.mk kb60021000_0.2.2.1 kb60021000_0.2.2.2.1 kb60021000_0.2.2.2.2) 2 else some ((default : Bool), (GL1Cur.mk kb60021000_0.2.2.1 kb60021000_0.2.2.2.1 kb60021000_0.2.2.2.2))) >>= fun (y32 : Bool × GL1Cur) => (some (if (decide (0 < x9)) = true then y32.1 else false)) >>= fun (y33 : Bool) => if y33 = true then ((sL7Expr_X y32.2 p1) >>= fun (y34 : GExpr × GL1Cur) => sL7Query_X_J6 p1 y16 x9 y1 y21 kb60021000_0.2.1 (kb60021000_0.1, (y34.2.b, (y34.2.i, (y34.2.h, (([y34.1] : List GExpr), b60110001_0)))))) else (sL7Query_X_J6 p1 y16 x9 y1 y21 kb60021000_0.2.1 (kb60021000_0.1, (y32.2.b, (y32.2.i, (y32.2.h, (([] : List GExpr), b60110001_0))))))
  partial_fixpoint
def sL7Query_X_L3 (p1 : Int) (y16 : Int × GL1Cur) (y1 : Bool × GL1Cur) (b60021000_0 : (List GItem)) (x9 : Int) (b1000000_0_17 : (List Int)) (kb1000000_1_18 : (Int × (Int × (List GSource)))) : Option (GQuery × GL1Cur) :=
  if (decide (x9 < (IntKind.wrap .i64 (1 + y16.1)))) = true then ((sL1Pick (GL1Cur.mk b1000000_0_17 kb1000000_1_18.1 kb1000000_1_18.2.1) ([[116], [117], [118]] : List (List UInt8))) >>= fun (y21 : (List UInt8) × GL1Cur) => (sL1Once y21.2 3) >>= fun (y22 : Bool × GL1Cur) => if y22.1 = true then ((sL2Name y22.2) >>= fun (y23 : (List UInt8) × GL1Cur) => sL7Query_X_J4 p1 y16 x9 y1 y21 kb1000000_1_18.2.2 (b60021000_0, (y23.1, (y23.2.b, (y23.2.i, y23.2.h))))) else (sL7Query_X_J4 p1 y16 x9 y1 y21 kb1000000_1_18.2.2 (b60021000_0, ([], (y22.2.b, (y22.2.i, y22.2.h)))))) else ((sL1Once (GL1Cur.mk b1000000_0_17 kb1000000_1_18.1 kb1000000_1_18.2.1) 2) >>= fun (y27 : Bool × GL1Cur) => if y27.1 = true then ((sL7Expr_X y27.2 p1) >>= fun (y28 : GExpr × GL1Cur) => sL7Query_X_J5 p1 y1 b60021000_0 y28.2.b y28.2.i y28.2.h (([y28.1] : List GExpr), kb1000000_1_18.2.2)) else (sL7Query_X_J5 p1 y1 b60021000_0 y27.2.b y27.2.i y27.2.h (([] : List GExpr), kb1000000_1_18.2.2)))
  partial_fixpoint
def sL7Query_X_J2 (p1 : Int) (y2 : Int × GL1Cur) (x7 : Int) (y1 : Bool × GL1Cur) (y10 : GExpr × GL1Cur) (b60021000_0 : (List GItem)) (kb8_12 : ((List UInt8) × ((List Int) × (Int × Int)))) : Option (GQuery × GL1Cur) :=
  (appG 176 b60021000_0 ([(GItem.mk false [] y10.1 kb8_12.1)] : List GItem)) >>= fun (y20 : (List GItem)) => sL7Query_X_J1 p1 y2 x7 y1 kb8_12.2.1 kb8_12.2.2.1 (kb8_12.2.2.2, y20)
  partial_fixpoint
def sL7Query_X_J1 (p1 : Int) (y2 : Int × GL1Cur) (x7 : Int) (y1 : Bool × GL1Cur) (b1000000_0_5 : (List Int)) (b1000000_1_6 : Int) (kb1000000_2_7 : (Int × (List GItem))) : Option (GQuery × GL1Cur) :=
  sL7Query_X_L0 p1 y2 y1 (IntKind.wrap .i64 (x7 + 1)) b1000000_0_5 b1000000_1_6 (kb1000000_2_7.1, kb1000000_2_7.2)
  partial_fixpoint
def sL7Query_X_L0 (p1 : Int) (y2 : Int × GL1Cur) (y1 : Bool × GL1Cur) (x7 : Int) (b1000000_0 : (List Int)) (b1000000_1 : Int) (kb1000000_2 : (Int × (List GItem))) : Option (GQuery × GL1Cur) :=
  if (decide (x7 < (IntKind.wrap .i64 (1 + y2.1)))) = true then ((sL1Below (GL1Cur.mk b1000000_0 b1000000_1 kb1000000_2.1) 5) >>= fun (y3 : Int × GL1Cur) => if (decide (y3.1 = 0)) = true then ((appG 176 kb1000000_2.2 ([(GItem.mk true [] (GExpr.mk 0 0 false (GValue.mk 0 0 []) [] [] ([] : List GExpr) ([] : List GQuery)) [])] : List GItem)) >>= fun (y4 : (List GItem)) => sL7Query_X_J1 p1 y2 x7 y1 y3.2.b y3.2.i (y3.2.h, y4)) else (if (decide (y3.1 = 1)) = true then ((sL1Pick y3.2 ([[116], [117]] : List (List UInt8))) >>= fun (y8 : (List UInt8) × GL1Cur) => (appG 176 kb1000000_2.2 ([(GItem.mk true y8.1 (GExpr.mk 0 0 false (GValue.mk 0 0 []) [] [] ([] : List GExpr) ([] : List GQuery)) [])] : List GItem)) >>= fun (y9 : (List GItem)) => sL7Query_X_J1 p1 y2 x7 y1 y8.2.b y8.2.i (y8.2.h, y9)) else ((sL7Expr_X y3.2 p1) >>= fun (y10 : GExpr × GL1Cur) => (sL1Once y10.2 2) >>= fun (y11 : Bool × GL1Cur) => if y11.1 = true then ((sL2Name y11.2) >>= fun (y12 : (List UInt8) × GL1Cur) => sL7Query_X_J2 p1 y2 x7 y1 y10 kb1000000_2.2 (y12.1, (y12.2.b, (y12.2.i, y12.2.h)))) else (sL7Query_X_J2 p1 y2 x7 y1 y10 kb1000000_2.2 ([], (y11.2.b, (y11.2.i, y11.2.h))))))) else ((sL1Below (GL1Cur.mk b1000000_0 b1000000_1 kb1000000_2.1) 2) >>= fun (y16 : Int × GL1Cur) => sL7Query_X_L3 p1 y16 y1 kb1000000_2.2 0 y16.2.b (y16.2.i, (y16.2.h, ([] : List GSource))))
  partial_fixpoint
def sL7Query_X (p0 : GL1Cur) (p1 : Int) : Option (GQuery × GL1Cur) :=
  (sL1Once p0 4) >>= fun (y1 : Bool × GL1Cur) => (sL1Below y1.2 2) >>= fun (y2 : Int × GL1Cur) => sL7Query_X_L0 p1 y2 y1 0 y2.2.b y2.2.i (y2.2.h, ([] : List GItem))
  partial_fixpoint
def sL7Kids_X_L0 (p1 : Int) (p2 : Int) (x8 : Int) (b1000000_0 : (List Int)) (b1000000_1 : Int) (b1000000_2 : Int) (b60012000_0 : (List GExpr)) : Option ((List GExpr) × GL1Cur) :=
  if (decide (x8 < p2)) = true then ((sL7Expr_X (GL1Cur.mk b1000000_0 b1000000_1 b1000000_2) (IntKind.wrap .i64 (p1 - 1))) >>= fun (y1 : GExpr × GL1Cur) => (appG 136 b60012000_0 ([y1.1] : List GExpr)) >>= fun (y2 : (List GExpr)) => sL7Kids_X_L0 p1 p2 (IntKind.wrap .i64 (x8 + 1)) y1.2.b y1.2.i y1.2.h y2) else (some (b60012000_0, (GL1Cur.mk b1000000_0 b1000000_1 b1000000_2)))
  partial_fixpoint
def sL7Kids_X (p0 : GL1Cur) (p1 : Int) (p2 : Int) : Option ((List GExpr) × GL1Cur) :=
  sL7Kids_X_L0 p1 p2 0 p0.b p0.i p0.h ([] : List GExpr)
  partial_fixpoint
def sL7Expr_X_J0 (p1 : Int) (y6 : Int × GL1Cur) : Option (GExpr × GL1Cur) :=
  (sL1Below y6.2 14) >>= fun (y20 : Int × GL1Cur) => (sL7Kids_X y20.2 p1 2) >>= fun (y21 : (List GExpr) × GL1Cur) => some ((GExpr.mk 4 (IntKind.wrap .i64 (1 + y20.1)) false (GValue.mk 0 0 []) [] [] y21.1 ([] : List GQuery)), y21.2)
  partial_fixpoint
def sL7Expr_X (p0 : GL1Cur) (p1 : Int) : Option (GExpr × GL1Cur) :=
  (if (true && ((decide (p1 ≤ 0)) == false)) = true then sL1Once p0 5 else some ((default : Bool), p0)) >>= fun (y1 : Bool × GL1Cur) => (some (if (decide (p1 ≤ 0)) = true then true else y1.1)) >>= fun (y2 : Bool) => if y2 = true then ((sL1Once y1.2 2) >>= fun (y3 : Bool × GL1Cur) => if y3.1 = true then ((sL7Col_X y3.2) >>= fun (y4 : GExpr × GL1Cur) => some (y4.1, y4.2)) else ((sL7Value y3.2) >>= fun (y5 : GValue × GL1Cur) => some ((GExpr.mk 1 0 false y5.1 [] [] ([] : List GExpr) ([] : List GQuery)), y5.2))) else ((sL1Below y1.2 12) >>= fun (y6 : Int × GL1Cur) => if (decide (y6.1 = 0)) = true then ((sL7Kids_X y6.2 p1 1) >>= fun (y7 : (List GExpr) × GL1Cur) => some ((GExpr.mk 3 15 false (GValue.mk 0 0 []) [] [] y7.1 ([] : List GQuery)), y7.2)) else (if (decide (y6.1 = 1)) = true then ((sL7Kids_X y6.2 p1 1) >>= fun (y8 : (List GExpr) × GL1Cur) => some ((GExpr.mk 3 16 false (GValue.mk 0 0 []) [] [] y8.1 ([] : List GQuery)), y8.2)) else (if (decide (y6.1 = 2)) = true then ((sL1Once y6.2 2) >>= fun (y9 : Bool × GL1Cur) => (sL7Kids_X y9.2 p1 1) >>= fun (y10 : (List GExpr) × GL1Cur) => some ((GExpr.mk 5 0 y9.1 (GValue.mk 0 0 []) [] [] y10.1 ([] : List GQuery)), y10.2)) else (if (decide (y6.1 = 3)) = true then ((sL1Once y6.2 2) >>= fun (y11 : Bool × GL1Cur) => (sL7Kids_X y11.2 p1 3) >>= fun (y12 : (List GExpr) × GL1Cur) => some ((GExpr.mk 6 0 y11.1 (GValue.mk 0 0 []) [] [] y12.1 ([] : List GQuery)), y12.2)) else (if (decide (y6.1 = 4)) = true then ((sL1Once y6.2 2) >>= fun (y13 : Bool × GL1Cur) => (sL1Below y13.2 2) >>= fun (y14 : Int × GL1Cur) => (sL7Kids_X y14.2 p1 (IntKind.wrap .i64 (2 + y14.1))) >>= fun (y15 : (List GExpr) × GL1Cur) => some ((GExpr.mk 7 0 y13.1 (GValue.mk 0 0 []) [] [] y15.1 ([] : List GQuery)), y15.2)) else (if (decide (y6.1 = 5)) = true then (if (decide (1 < p1)) = true then ((sL1Once y6.2 2) >>= fun (y16 : Bool × GL1Cur) => (sL7Kids_X y16.2 p1 1) >>= fun (y17 : (List GExpr) × GL1Cur) => (sL7Query_X y17.2 (IntKind.wrap .i64 (p1 - 2))) >>= fun (y18 : GQuery × GL1Cur) => some ((GExpr.mk 8 0 y16.1 (GValue.mk 0 0 []) [] [] y17.1 ([y18.1] : List GQuery)), y18.2)) else (sL7Expr_X_J0 p1 y6)) else (if (decide (y6.1 = 6)) = true then (if (decide (1 < p1)) = true then ((sL7Query_X y6.2 (IntKind.wrap .i64 (p1 - 2))) >>= fun (y19 : GQuery × GL1Cur) => some ((GExpr.mk 9 0 false (GValue.mk 0 0 []) [] [] ([] : List GExpr) ([y19.1] : List GQuery)), y19.2)) else (sL7Expr_X_J0 p1 y6)) else (sL7Expr_X_J0 p1 y6))))))))
  partial_fixpoint
end
def sL8Draw_J0 (y4 : GStmt × GL1Cur) (b4_0 : Int) (b4_6 : Int) (b4_7 : (List UInt8)) (b4_9 : (List (List UInt8))) (b60116004_0 : (List (List GExpr))) (b60116005_0 : (List GExpr)) (b60116006_0 : (List GExpr)) : Option GStmt :=
  some (GStmt.mk b4_0 (GQuery.mk y4.1.query.distinct y4.1.query.items y4.1.query.from_ y4.1.query.where_ y4.1.query.order b4_6) b4_7 b60116004_0 b4_9 b60116005_0 b60116006_0)
def sL8Right_X_J3 (b5_0 : Int) (y18 : (List UInt8) × GL1Cur) (b5_9_7 : (List (List UInt8))) (b60134001_0 : (List GExpr)) (b60134000_0 : (List (List GExpr))) (b1000000_0_22 : (List Int)) (b1000000_1_23 : Int) (b1000000_2_24 : Int) (b60158002_0 : (List GExpr)) : Option (GStmt × GL1Cur) :=
  some ((GStmt.mk b5_0 (GQuery.mk false ([] : List GItem) ([] : List GSource) ([] : List GExpr) ([] : List GSortKey) 0) y18.1 b60134000_0 b5_9_7 b60134001_0 b60158002_0), (GL1Cur.mk b1000000_0_22 b1000000_1_23 b1000000_2_24))
def sL8Right_X_J2 (p1 : Int) (b5_0 : Int) (b5_9_7 : (List (List UInt8))) (b1000000_0_8 : (List Int)) (b1000000_1_9 : Int) (b1000000_2_10 : Int) (b60134001_0 : (List GExpr)) (b60134000_0 : (List (List GExpr))) : Option (GStmt × GL1Cur) :=
  (sL2Name (GL1Cur.mk b1000000_0_8 b1000000_1_9 b1000000_2_10)) >>= fun (y18 : (List UInt8) × GL1Cur) => (if (true && ((!decide (b5_0 = 2)) == true)) = true then sL1Once y18.2 2 else some ((default : Bool), y18.2)) >>= fun (y19 : Bool × GL1Cur) => (some (if (!decide (b5_0 = 2)) = true then y19.1 else false)) >>= fun (y20 : Bool) => if y20 = true then ((sL7Kids_X y19.2 p1 1) >>= fun (y21 : (List GExpr) × GL1Cur) => sL8Right_X_J3 b5_0 y18 b5_9_7 b60134001_0 b60134000_0 y21.2.b y21.2.i y21.2.h y21.1) else (sL8Right_X_J3 b5_0 y18 b5_9_7 b60134001_0 b60134000_0 y19.2.b y19.2.i y19.2.h ([] : List GExpr))
def sL8Right_X_L0 (p1 : Int) (y2 : Int × GL1Cur) (x7 : Int) (b1000000_0 : (List Int)) (b1000000_1 : Int) (b1000000_2 : Int) (b60033000_0 : (List (List GExpr))) : Option (GStmt × GL1Cur) :=
  if (decide (x7 < (IntKind.wrap .i64 (1 + y2.1)))) = true then ((sL1Below (GL1Cur.mk b1000000_0 b1000000_1 b1000000_2) 3) >>= fun (y12 : Int × GL1Cur) => (sL7Kids_X y12.2 p1 (IntKind.wrap .i64 (1 + y12.1))) >>= fun (y13 : (List GExpr) × GL1Cur) => (appG 24 b60033000_0 ([y13.1] : List (List GExpr))) >>= fun (y14 : (List (List GExpr))) => sL8Right_X_L0 p1 y2 (IntKind.wrap .i64 (x7 + 1)) y13.2.b y13.2.i y13.2.h y14) else (sL8Right_X_J2 p1 2 ([] : List (List UInt8)) b1000000_0 b1000000_1 b1000000_2 ([] : List GExpr) b60033000_0)
  partial_fixpoint
def sL8Right_X_L1 (p1 : Int) (y3 : Int × GL1Cur) (x9 : Int) (b5_9 : (List (List UInt8))) (b1000000_0_4 : (List Int)) (b1000000_1_5 : Int) (b1000000_2_6 : Int) : Option (GStmt × GL1Cur) :=
  if (decide (x9 < (IntKind.wrap .i64 (1 + y3.1)))) = true then ((sL2Name (GL1Cur.mk b1000000_0_4 b1000000_1_5 b1000000_2_6)) >>= fun (y15 : (List UInt8) × GL1Cur) => (appG 16 b5_9 ([y15.1] : List (List UInt8))) >>= fun (y16 : List (List UInt8)) => sL8Right_X_L1 p1 y3 (IntKind.wrap .i64 (x9 + 1)) y16 y15.2.b y15.2.i y15.2.h) else ((sL7Kids_X (GL1Cur.mk b1000000_0_4 b1000000_1_5 b1000000_2_6) p1 (IntKind.wrap .i64 (1 + y3.1))) >>= fun (y17 : (List GExpr) × GL1Cur) => sL8Right_X_J2 p1 3 b5_9 y17.2.b y17.2.i y17.2.h y17.1 ([] : List (List GExpr)))
  partial_fixpoint
def sL8Right_X (p0 : GL1Cur) (p1 : Int) : Option (GStmt × GL1Cur) :=
  (sL1Below p0 6) >>= fun (y1 : Int × GL1Cur) => if (decide (y1.1 = 0)) = true then ((sL1Below y1.2 2) >>= fun (y2 : Int × GL1Cur) => sL8Right_X_L0 p1 y2 0 y2.2.b y2.2.i y2.2.h ([] : List (List GExpr))) else (if (decide (y1.1 = 1)) = true then ((sL1Below y1.2 2) >>= fun (y3 : Int × GL1Cur) => sL8Right_X_L1 p1 y3 0 ([] : List (List UInt8)) y3.2.b y3.2.i y3.2.h) else (if (decide (y1.1 = 2)) = true then (sL8Right_X_J2 p1 4 ([] : List (List UInt8)) y1.2.b y1.2.i y1.2.h ([] : List GExpr) ([] : List (List GExpr))) else ((sL7Query_X y1.2 p1) >>= fun (y11 : GQuery × GL1Cur) => some ((GStmt.mk 1 y11.1 [] ([] : List (List GExpr)) ([] : List (List UInt8)) ([] : List GExpr) ([] : List GExpr)), y11.2))))
def sL8Draw (p0 : (List Int)) : Option GStmt :=
  (sL1New p0) >>= fun (y1 : GL1Cur) => (sL1Size p0 3) >>= fun (y2 : Int) => (sL1Below y1 y2) >>= fun (y3 : Int × GL1Cur) => (sL8Right_X y3.2 (IntKind.wrap .i64 (1 + y3.1))) >>= fun (y4 : GStmt × GL1Cur) => (sL1Below y4.2 14) >>= fun (y5 : Int × GL1Cur) => if (decide (y5.1 = 0)) = true then ((sL1Below y5.2 7) >>= fun (y6 : Int × GL1Cur) => sL8Draw_J0 y4 (IntKind.wrap .i64 (y6.1 - 1)) y4.1.query.limit y4.1.table y4.1.cols y4.1.rows y4.1.sets y4.1.where_) else (if (decide (y5.1 = 1)) = true then ((sL2Any y5.2) >>= fun (y7 : (List UInt8) × GL1Cur) => sL8Draw_J0 y4 y4.1.kind y4.1.query.limit y7.1 y4.1.cols y4.1.rows y4.1.sets y4.1.where_) else (if (decide (y5.1 = 2)) = true then ((sL7Expr_X y5.2 1) >>= fun (y8 : GExpr × GL1Cur) => (sL7Bent_X y8.2 y8.1) >>= fun (y9 : GExpr × GL1Cur) => (appG 136 y4.1.where_ ([y9.1] : List GExpr)) >>= fun (y10 : (List GExpr)) => sL8Draw_J0 y4 y4.1.kind y4.1.query.limit y4.1.table y4.1.cols y4.1.rows y4.1.sets y10) else (if (decide (y5.1 = 3)) = true then ((sL2Any y5.2) >>= fun (y11 : (List UInt8) × GL1Cur) => (appG 16 y4.1.cols ([y11.1] : List (List UInt8))) >>= fun (y12 : List (List UInt8)) => sL8Draw_J0 y4 y4.1.kind y4.1.query.limit y4.1.table y12 y4.1.rows y4.1.sets y4.1.where_) else (if (decide (y5.1 = 4)) = true then ((appG 24 y4.1.rows ([([] : List GExpr)] : List (List GExpr))) >>= fun (y13 : (List (List GExpr))) => sL8Draw_J0 y4 y4.1.kind y4.1.query.limit y4.1.table y4.1.cols y13 y4.1.sets y4.1.where_) else (if (decide (y5.1 = 5)) = true then ((sL1Below y5.2 4) >>= fun (y14 : Int × GL1Cur) => sL8Draw_J0 y4 y4.1.kind (IntKind.wrap .i64 (y14.1 - 2)) y4.1.table y4.1.cols y4.1.rows y4.1.sets y4.1.where_) else (if (decide (y5.1 = 6)) = true then ((sL7Deep_X y5.2) >>= fun (y15 : GExpr × GL1Cur) => (appG 136 y4.1.sets ([y15.1] : List GExpr)) >>= fun (y16 : (List GExpr)) => sL8Draw_J0 y4 y4.1.kind y4.1.query.limit y4.1.table y4.1.cols y4.1.rows y16 y4.1.where_) else (sL8Draw_J0 y4 y4.1.kind y4.1.query.limit y4.1.table y4.1.cols y4.1.rows y4.1.sets y4.1.where_)))))))
def sDrawStmtDepth (p0 : (List Int)) : Option GStmt :=
  (sL8Draw p0) >>= fun (y1 : GStmt) => some y1
def wBig (p0 : (List Int)) : Option Bool :=
  some (decide (1048576 < (p0.length : Int)))
mutual
def iDeepestOf_L0 (p0 : (List GExpr)) (x3 : Int) (x8 : Int) : Option Int :=
  if (decide (x8 < (p0.length : Int))) = true then ((idx p0 x8) >>= fun (y1 : GExpr) => (iDepthOf y1) >>= fun (y2 : Int) => iDeepestOf_L0 p0 (if y2 > x3 then y2 else x3) (IntKind.wrap .i64 (x8 + 1))) else (some x3)
  partial_fixpoint
def iDeepestOf (p0 : (List GExpr)) : Option Int :=
  iDeepestOf_L0 p0 0 0
  partial_fixpoint
def iQueryDepth (p0 : GQuery) : Option Int :=
  (iQuery_exprs p0) >>= fun (y1 : (List GExpr)) => (iDeepestOf y1) >>= fun (y2 : Int) => some y2
  partial_fixpoint
def iDepthOf_L1 (p0 : GExpr) (x3_3 : Int) (x23 : Int) : Option Int :=
  if (decide (x23 < (p0.sub.length : Int))) = true then ((idx p0.sub x23) >>= fun (y4 : GQuery) => (iQueryDepth y4) >>= fun (y5 : Int) => iDepthOf_L1 p0 (if y5 > x3_3 then y5 else x3_3) (IntKind.wrap .i64 (x23 + 1))) else (some (IntKind.wrap .i64 (1 + x3_3)))
  partial_fixpoint
def iDepthOf_L0 (p0 : GExpr) (x3 : Int) (x11 : Int) : Option Int :=
  if (decide (x11 < (p0.kids.length : Int))) = true then ((idx p0.kids x11) >>= fun (y1 : GExpr) => (iDepthOf y1) >>= fun (y2 : Int) => iDepthOf_L0 p0 (if y2 > x3 then y2 else x3) (IntKind.wrap .i64 (x11 + 1))) else (iDepthOf_L1 p0 x3 0)
  partial_fixpoint
def iDepthOf (p0 : GExpr) : Option Int :=
  iDepthOf_L0 p0 0 0
  partial_fixpoint
end
mutual
def iQuerySize (p0 : GQuery) : Option Int :=
  (iQuery_exprs p0) >>= fun (y1 : (List GExpr)) => (iSizeOfAll y1) >>= fun (y2 : Int) => some y2
  partial_fixpoint
def iSizeOf_L0 (p0 : GExpr) (x3 : Int) (x13 : Int) : Option Int :=
  if (decide (x13 < (p0.sub.length : Int))) = true then ((idx p0.sub x13) >>= fun (y2 : GQuery) => (iQuerySize y2) >>= fun (y3 : Int) => iSizeOf_L0 p0 (IntKind.wrap .i64 (x3 + y3)) (IntKind.wrap .i64 (x13 + 1))) else (some x3)
  partial_fixpoint
def iSizeOfAll_L0 (p0 : (List GExpr)) (x3 : Int) (x8 : Int) : Option Int :=
  if (decide (x8 < (p0.length : Int))) = true then ((idx p0 x8) >>= fun (y1 : GExpr) => (iSizeOf y1) >>= fun (y2 : Int) => iSizeOfAll_L0 p0 (IntKind.wrap .i64 (x3 + y2)) (IntKind.wrap .i64 (x8 + 1))) else (some x3)
  partial_fixpoint
def iSizeOfAll (p0 : (List GExpr)) : Option Int :=
  iSizeOfAll_L0 p0 0 0
  partial_fixpoint
def iSizeOf (p0 : GExpr) : Option Int :=
  (iSizeOfAll p0.kids) >>= fun (y1 : Int) => iSizeOf_L0 p0 (IntKind.wrap .i64 (1 + y1)) 0
  partial_fixpoint
end
def iStmt_exprs_L0 (p0 : GStmt) (x3 : (List GExpr)) (x12 : Int) : Option (List GExpr) :=
  if (decide (x12 < (p0.rows.length : Int))) = true then ((idx p0.rows x12) >>= fun (y2 : (List GExpr)) => (appG 136 x3 y2) >>= fun (y3 : List GExpr) => iStmt_exprs_L0 p0 y3 (IntKind.wrap .i64 (x12 + 1))) else ((appG 136 x3 p0.sets) >>= fun (y4 : List GExpr) => (appG 136 y4 p0.where_) >>= fun (y5 : List GExpr) => some y5)
  partial_fixpoint
def iStmt_exprs (p0 : GStmt) : Option (List GExpr) :=
  (iQuery_exprs p0.query) >>= fun (y1 : (List GExpr)) => iStmt_exprs_L0 p0 y1 0
def iStmtDepth (p0 : GStmt) : Option Int :=
  (iStmt_exprs p0) >>= fun (y1 : (List GExpr)) => (iDeepestOf y1) >>= fun (y2 : Int) => some y2
def iStmtSize (p0 : GStmt) : Option Int :=
  (iStmt_exprs p0) >>= fun (y1 : (List GExpr)) => (iSizeOfAll y1) >>= fun (y2 : Int) => some y2
mutual
def sL7CopyQuery_X_L2 (p0 : GQuery) (b60068001_0 : (List GSource)) (b60021000_0 : (List GItem)) (y1 : (List GExpr)) (x7 : Int) (b60118003_0 : (List GSortKey)) : Option GQuery :=
  if (decide (x7 < (p0.order.length : Int))) = true then ((idx p0.order x7) >>= fun (y10 : GSortKey) => (sL7Copy_X y10.expr) >>= fun (y11 : GExpr) => (idx p0.order x7) >>= fun (y12 : GSortKey) => (appG 144 b60118003_0 ([(GSortKey.mk y11 y12.desc)] : List GSortKey)) >>= fun (y13 : (List GSortKey)) => sL7CopyQuery_X_L2 p0 b60068001_0 b60021000_0 y1 (IntKind.wrap .i64 (x7 + 1)) y13) else (some (GQuery.mk p0.distinct b60021000_0 b60068001_0 y1 b60118003_0 p0.limit))
  partial_fixpoint
def sL7CopyQuery_X_L1 (p0 : GQuery) (b60021000_0 : (List GItem)) (y1 : (List GExpr)) (x6 : Int) (b60068001_0 : (List GSource)) : Option GQuery :=
  if (decide (x6 < (p0.from_.length : Int))) = true then ((idx p0.from_ x6) >>= fun (y5 : GSource) => (idx p0.from_ x6) >>= fun (y6 : GSource) => (idx p0.from_ x6) >>= fun (y7 : GSource) => (sL7Copies_X y7.on_) >>= fun (y8 : (List GExpr)) => (appG 56 b60068001_0 ([(GSource.mk y5.table y6.as_ y8)] : List GSource)) >>= fun (y9 : (List GSource)) => sL7CopyQuery_X_L1 p0 b60021000_0 y1 (IntKind.wrap .i64 (x6 + 1)) y9) else (sL7CopyQuery_X_L2 p0 b60068001_0 b60021000_0 y1 0 ([] : List GSortKey))
  partial_fixpoint
def sL7CopyQuery_X_L0 (p0 : GQuery) (y1 : (List GExpr)) (x4 : Int) (b60021000_0 : (List GItem)) : Option GQuery :=
  if (decide (x4 < (p0.items.length : Int))) = true then ((idx p0.items x4) >>= fun (y2 : GItem) => (sL7Copy_X y2.expr) >>= fun (y3 : GExpr) => (appG 176 b60021000_0 ([(GItem.mk y2.star y2.qual y3 y2.as_)] : List GItem)) >>= fun (y4 : (List GItem)) => sL7CopyQuery_X_L0 p0 y1 (IntKind.wrap .i64 (x4 + 1)) y4) else (sL7CopyQuery_X_L1 p0 b60021000_0 y1 0 ([] : List GSource))
  partial_fixpoint
def sL7CopyQuery_X (p0 : GQuery) : Option GQuery :=
  (sL7Copies_X p0.where_) >>= fun (y1 : (List GExpr)) => sL7CopyQuery_X_L0 p0 y1 0 ([] : List GItem)
  partial_fixpoint
def sL7Copy_X_L0 (p0 : GExpr) (y1 : (List GExpr)) (x4 : Int) (b60025001_0 : (List GQuery)) : Option GExpr :=
  if (decide (x4 < (p0.sub.length : Int))) = true then ((idx p0.sub x4) >>= fun (y2 : GQuery) => (sL7CopyQuery_X y2) >>= fun (y3 : GQuery) => (appG 112 b60025001_0 ([y3] : List GQuery)) >>= fun (y4 : (List GQuery)) => sL7Copy_X_L0 p0 y1 (IntKind.wrap .i64 (x4 + 1)) y4) else (some (GExpr.mk p0.kind p0.op p0.not_ p0.value p0.qual p0.name y1 b60025001_0))
  partial_fixpoint
def sL7Copies_X_L0 (p0 : (List GExpr)) (x4 : Int) (b60012000_0 : (List GExpr)) : Option (List GExpr) :=
  if (decide (x4 < (p0.length : Int))) = true then ((idx p0 x4) >>= fun (y1 : GExpr) => (sL7Copy_X y1) >>= fun (y2 : GExpr) => (appG 136 b60012000_0 ([y2] : List GExpr)) >>= fun (y3 : (List GExpr)) => sL7Copies_X_L0 p0 (IntKind.wrap .i64 (x4 + 1)) y3) else (some b60012000_0)
  partial_fixpoint
def sL7Copies_X (p0 : (List GExpr)) : Option (List GExpr) :=
  sL7Copies_X_L0 p0 0 ([] : List GExpr)
  partial_fixpoint
def sL7Copy_X (p0 : GExpr) : Option GExpr :=
  (sL7Copies_X p0.kids) >>= fun (y1 : (List GExpr)) => sL7Copy_X_L0 p0 y1 0 ([] : List GQuery)
  partial_fixpoint
end
def sL7Copies_L0 (p0 : (List GExpr)) (x4 : Int) (b60012000_0 : (List GExpr)) : Option (List GExpr) :=
  if (decide (x4 < (p0.length : Int))) = true then ((idx p0 x4) >>= fun (y1 : GExpr) => (sL7Copy_X y1) >>= fun (y2 : GExpr) => (appG 136 b60012000_0 ([y2] : List GExpr)) >>= fun (y3 : (List GExpr)) => sL7Copies_L0 p0 (IntKind.wrap .i64 (x4 + 1)) y3) else (some b60012000_0)
  partial_fixpoint
def sL7Copies (p0 : (List GExpr)) : Option (List GExpr) :=
  sL7Copies_L0 p0 0 ([] : List GExpr)
def sL7Exprs_L3 (p0 : GQuery) (x3_9 : (List GExpr)) (x6 : Int) : Option (List GExpr) :=
  if (decide (x6 < (p0.order.length : Int))) = true then ((idx p0.order x6) >>= fun (y10 : GSortKey) => (appG 136 x3_9 ([y10.expr] : List GExpr)) >>= fun (y11 : List GExpr) => sL7Exprs_L3 p0 y11 (IntKind.wrap .i64 (x6 + 1))) else (some x3_9)
  partial_fixpoint
def sL7Exprs_L2 (p0 : GQuery) (x3_5 : (List GExpr)) (x5 : Int) : Option (List GExpr) :=
  if (decide (x5 < (p0.from_.length : Int))) = true then ((idx p0.from_ x5) >>= fun (y6 : GSource) => (appG 136 x3_5 y6.on_) >>= fun (y7 : List GExpr) => sL7Exprs_L2 p0 y7 (IntKind.wrap .i64 (x5 + 1))) else ((appG 136 x3_5 p0.where_) >>= fun (y8 : List GExpr) => sL7Exprs_L3 p0 y8 0)
  partial_fixpoint
mutual
def sL7Exprs_J1 (x4 : Int) (p0 : GQuery) (x3_4 : (List GExpr)) : Option (List GExpr) :=
  sL7Exprs_L0 p0 x3_4 (IntKind.wrap .i64 (x4 + 1))
  partial_fixpoint
def sL7Exprs_L0 (p0 : GQuery) (x3 : (List GExpr)) (x4 : Int) : Option (List GExpr) :=
  if (decide (x4 < (p0.items.length : Int))) = true then ((idx p0.items x4) >>= fun (y1 : GItem) => if (!y1.star) = true then ((idx p0.items x4) >>= fun (y2 : GItem) => (appG 136 x3 ([y2.expr] : List GExpr)) >>= fun (y3 : List GExpr) => sL7Exprs_J1 x4 p0 y3) else (sL7Exprs_J1 x4 p0 x3)) else (sL7Exprs_L2 p0 x3 0)
  partial_fixpoint
end
def sL7Exprs (p0 : GQuery) : Option (List GExpr) :=
  sL7Exprs_L0 p0 ([] : List GExpr) 0
def sL8Exprs_L0 (p0 : GStmt) (x3 : (List GExpr)) (x4 : Int) : Option (List GExpr) :=
  if (decide (x4 < (p0.rows.length : Int))) = true then ((idx p0.rows x4) >>= fun (y2 : (List GExpr)) => (appG 136 x3 y2) >>= fun (y3 : List GExpr) => sL8Exprs_L0 p0 y3 (IntKind.wrap .i64 (x4 + 1))) else ((appG 136 x3 p0.sets) >>= fun (y4 : List GExpr) => (appG 136 y4 p0.where_) >>= fun (y5 : List GExpr) => some y5)
  partial_fixpoint
def sL8Exprs (p0 : GStmt) : Option (List GExpr) :=
  (sL7Exprs p0.query) >>= fun (y1 : (List GExpr)) => sL8Exprs_L0 p0 y1 0
def sExprsOf (p0 : GStmt) : Option (List GExpr) :=
  (sL8Exprs p0) >>= fun (y1 : (List GExpr)) => (sL7Copies y1) >>= fun (y2 : (List GExpr)) => some y2
def wLow (p0 : Int) (p1 : Int) : Option Int :=
  if (decide (p0 < p1)) = true then (some p0) else (some p1)
def wFnStmtParts_L0 (y3 : (List GExpr)) (y2 : GStmt) (x5 : Int) (x6 : Int) (x7 : Int) : Option Bool :=
  if (decide (x7 < (y3.length : Int))) = true then ((idx y3 x7) >>= fun (y4 : GExpr) => (iDepthOf y4) >>= fun (y5 : Int) => (wLow (IntKind.wrap .i64 (0 - x5)) (IntKind.wrap .i64 (0 - y5))) >>= fun (y6 : Int) => (idx y3 x7) >>= fun (y7 : GExpr) => (iSizeOf y7) >>= fun (y8 : Int) => wFnStmtParts_L0 y3 y2 (IntKind.wrap .i64 (0 - y6)) (IntKind.wrap .i64 (x6 + y8)) (IntKind.wrap .i64 (x7 + 1))) else ((sExprsOf y2) >>= fun (y9 : (List GExpr)) => (if (true && ((decide ((y3.length : Int) = (y9.length : Int))) == true)) = true then iStmtDepth y2 else some default) >>= fun (y10 : Int) => (some (if (decide ((y3.length : Int) = (y9.length : Int))) = true then (decide (y10 = x5)) else false)) >>= fun (y11 : Bool) => (if (true && (y11 == true)) = true then iStmtSize y2 else some default) >>= fun (y12 : Int) => (some (if y11 = true then (decide (y12 = x6)) else false)) >>= fun (y13 : Bool) => some y13)
  partial_fixpoint
def wFnStmtParts (p0 : (List Int)) : Option Bool :=
  (wBig p0) >>= fun (y1 : Bool) => if y1 = true then (some true) else ((sDrawStmtDepth p0) >>= fun (y2 : GStmt) => (iExprsOf y2) >>= fun (y3 : (List GExpr)) => wFnStmtParts_L0 y3 y2 0 0 0)
end Go.Ab
