/- The functions of the program, as Lean functions (printed by a program). -/
import Derived.Test.YtdiknmniclancaaAbF0
namespace Go.Ab
open Go
structure GValue where
  kind : Int
  num : Int
  text : (List UInt8)
instance : Inhabited GValue := ⟨(GValue.mk 0 0 [])⟩
mutual
structure GExpr where
  kind : Int
  op : Int
  not_ : Bool
  value : GValue
  qual : (List UInt8)
  name : (List UInt8)
  kids : (List GExpr)
  sub : (List GQuery)
structure GItem where
  star : Bool
  qual : (List UInt8)
  expr : GExpr
  as_ : (List UInt8)
structure GQuery where
  distinct : Bool
  items : (List GItem)
  from_ : (List GSource)
  where_ : (List GExpr)
  order : (List GSortKey)
  limit : Int
structure GSortKey where
  expr : GExpr
  desc : Bool
structure GSource where
  table : (List UInt8)
  as_ : (List UInt8)
  on_ : (List GExpr)
end
instance : Inhabited GExpr := ⟨(GExpr.mk 0 0 false (GValue.mk 0 0 []) [] [] [] [])⟩
instance : Inhabited GItem := ⟨(GItem.mk false [] (GExpr.mk 0 0 false (GValue.mk 0 0 []) [] [] [] []) [])⟩
instance : Inhabited GQuery := ⟨(GQuery.mk false [] [] [] [] 0)⟩
instance : Inhabited GSortKey := ⟨(GSortKey.mk (GExpr.mk 0 0 false (GValue.mk 0 0 []) [] [] [] []) false)⟩
instance : Inhabited GSource := ⟨(GSource.mk [] [] [])⟩
structure GStmt where
  kind : Int
  query : GQuery
  table : (List UInt8)
  rows : (List (List GExpr))
  cols : (List (List UInt8))
  sets : (List GExpr)
  where_ : (List GExpr)
instance : Inhabited GStmt := ⟨(GStmt.mk 0 (GQuery.mk false [] [] [] [] 0) [] [] [] [] [])⟩
def okGValue (x : GValue) : Prop := okI x.kind ∧ okI x.num ∧ okS x.text
mutual
def okGExpr : GExpr → Prop
  | ⟨a0, a1, a2, a3, a4, a5, a6, a7⟩ => okI a0 ∧ okI a1 ∧ okB a2 ∧ okGValue a3 ∧ okS a4 ∧ okS a5 ∧ (a6.length ≤ 9223372036854775807 ∧ okLGExpr a6) ∧ (a7.length ≤ 9223372036854775807 ∧ okLGQuery a7)
def okGItem : GItem → Prop
  | ⟨a0, a1, a2, a3⟩ => okB a0 ∧ okS a1 ∧ okGExpr a2 ∧ okS a3
def okGQuery : GQuery → Prop
  | ⟨a0, a1, a2, a3, a4, a5⟩ => okB a0 ∧ (a1.length ≤ 9223372036854775807 ∧ okLGItem a1) ∧ (a2.length ≤ 9223372036854775807 ∧ okLGSource a2) ∧ (a3.length ≤ 9223372036854775807 ∧ okLGExpr a3) ∧ (a4.length ≤ 9223372036854775807 ∧ okLGSortKey a4) ∧ okI a5
def okGSortKey : GSortKey → Prop
  | ⟨a0, a1⟩ => okGExpr a0 ∧ okB a1
def okGSource : GSource → Prop
  | ⟨a0, a1, a2⟩ => okS a0 ∧ okS a1 ∧ (a2.length ≤ 9223372036854775807 ∧ okLGExpr a2)
def okLGExpr : List GExpr → Prop
  | [] => True
  | x :: l => okGExpr x ∧ okLGExpr l
def okLGItem : List GItem → Prop
  | [] => True
  | x :: l => okGItem x ∧ okLGItem l
def okLGQuery : List GQuery → Prop
  | [] => True
  | x :: l => okGQuery x ∧ okLGQuery l
def okLGSortKey : List GSortKey → Prop
  | [] => True
  | x :: l => okGSortKey x ∧ okLGSortKey l
def okLGSource : List GSource → Prop
  | [] => True
  | x :: l => okGSource x ∧ okLGSource l
end
def okGStmt (x : GStmt) : Prop := okI x.kind ∧ okGQuery x.query ∧ okS x.table ∧ (okL (okL okGExpr)) x.rows ∧ (okL okS) x.cols ∧ (okL okGExpr) x.sets ∧ (okL okGExpr) x.where_
def iQuery_exprs_L3 (p0 : GQuery) (x3_8 : (List GExpr)) (x46 : Int) : Option (List GExpr) :=
  if (decide (x46 < (p0.order.length : Int))) = true then ((idx p0.order x46) >>= fun (y9 : GSortKey) => (appG 136 x3_8 ([y9.expr] : List GExpr)) >>= fun (y10 : List GExpr) => iQuery_exprs_L3 p0 y10 (IntKind.wrap .i64 (x46 + 1))) else (some x3_8)
  partial_fixpoint
def iQuery_exprs_L2 (p0 : GQuery) (x3_4 : (List GExpr)) (x30 : Int) : Option (List GExpr) :=
  if (decide (x30 < (p0.from_.length : Int))) = true then ((idx p0.from_ x30) >>= fun (y5 : GSource) => (appG 136 x3_4 y5.on_) >>= fun (y6 : List GExpr) => iQuery_exprs_L2 p0 y6 (IntKind.wrap .i64 (x30 + 1))) else ((appG 136 x3_4 p0.where_) >>= fun (y7 : List GExpr) => iQuery_exprs_L3 p0 y7 0)
  partial_fixpoint
mutual
def iQuery_exprs_J1 (p0 : GQuery) (x14 : Int) (x3_3 : (List GExpr)) : Option (List GExpr) :=
  iQuery_exprs_L0 p0 x3_3 (IntKind.wrap .i64 (x14 + 1))
  partial_fixpoint
def iQuery_exprs_L0 (p0 : GQuery) (x3 : (List GExpr)) (x14 : Int) : Option (List GExpr) :=
  if (decide (x14 < (p0.items.length : Int))) = true then ((idx p0.items x14) >>= fun (y1 : GItem) => if (!y1.star) = true then ((appG 136 x3 ([y1.expr] : List GExpr)) >>= fun (y2 : List GExpr) => iQuery_exprs_J1 p0 x14 y2) else (iQuery_exprs_J1 p0 x14 x3)) else (iQuery_exprs_L2 p0 x3 0)
  partial_fixpoint
end
def iQuery_exprs (p0 : GQuery) : Option (List GExpr) :=
  iQuery_exprs_L0 p0 ([] : List GExpr) 0
mutual
def iQueryDepth (p0 : GQuery) : Option Int :=
  (iQuery_exprs p0) >>= fun (y1 : (List GExpr)) => (iDeepestOf y1) >>= fun (y2 : Int) => some y2
  partial_fixpoint
def iDepthOf_L1 (p0 : GExpr) (x3_3 : Int) (x23 : Int) : Option Int :=
  if (decide (x23 < (p0.sub.length : Int))) = true then ((idx p0.sub x23) >>= fun (y4 : GQuery) => (iQueryDepth y4) >>= fun (y5 : Int) => iDepthOf_L1 p0 (if y5 > x3_3 then y5 else x3_3) (IntKind.wrap .i64 (x23 + 1))) else (some (IntKind.wrap .i64 (1 + x3_3)))
  partial_fixpoint
def iDepthOf_L0 (p0 : GExpr) (x3 : Int) (x11 : Int) : Option Int :=
  if (decide (x11 < (p0.kids.length : Int))) = true then ((idx p0.kids x11) >>= fun (y1 : GExpr) => (iDepthOf y1) >>= fun (y2 : Int) => iDepthOf_L0 p0 (if y2 > x3 then y2 else x3) (IntKind.wrap .i64 (x11 + 1))) else (iDepthOf_L1 p0 x3 0)
  partial_fixpoint
def iDepthOf (p0 : GExpr) : Option Int :=
  iDepthOf_L0 p0 0 0
  partial_fixpoint
def iDeepestOf_L0 (p0 : (List GExpr)) (x3 : Int) (x8 : Int) : Option Int :=
  if (decide (x8 < (p0.length : Int))) = true then ((idx p0 x8) >>= fun (y1 : GExpr) => (iDepthOf y1) >>= fun (y2 : Int) => iDeepestOf_L0 p0 (if y2 > x3 then y2 else x3) (IntKind.wrap .i64 (x8 + 1))) else (some x3)
  partial_fixpoint
def iDeepestOf (p0 : (List GExpr)) : Option Int :=
  iDeepestOf_L0 p0 0 0
  partial_fixpoint
end
def iStmt_exprs_L0 (p0 : GStmt) (x3 : (List GExpr)) (x12 : Int) : Option (List GExpr) :=
  if (decide (x12 < (p0.rows.length : Int))) = true then ((idx p0.rows x12) >>= fun (y2 : (List GExpr)) => (appG 136 x3 y2) >>= fun (y3 : List GExpr) => iStmt_exprs_L0 p0 y3 (IntKind.wrap .i64 (x12 + 1))) else ((appG 136 x3 p0.sets) >>= fun (y4 : List GExpr) => (appG 136 y4 p0.where_) >>= fun (y5 : List GExpr) => some y5)
  partial_fixpoint
def iStmt_exprs (p0 : GStmt) : Option (List GExpr) :=
  (iQuery_exprs p0.query) >>= fun (y1 : (List GExpr)) => iStmt_exprs_L0 p0 y1 0
def iStmtDepth (p0 : GStmt) : Option Int :=
  (iStmt_exprs p0) >>= fun (y1 : (List GExpr)) => (iDeepestOf y1) >>= fun (y2 : Int) => some y2
def sL7Exprs_L3 (p0 : GQuery) (x3_9 : (List GExpr)) (x6 : Int) : Option (List GExpr) :=
  if (decide (x6 < (p0.order.length : Int))) = true then ((idx p0.order x6) >>= fun (y10 : GSortKey) => (appG 136 x3_9 ([y10.expr] : List GExpr)) >>= fun (y11 : List GExpr) => sL7Exprs_L3 p0 y11 (IntKind.wrap .i64 (x6 + 1))) else (some x3_9)
  partial_fixpoint
def sL7Exprs_L2 (p0 : GQuery) (x3_5 : (List GExpr)) (x5 : Int) : Option (List GExpr) :=
  if (decide (x5 < (p0.from_.length : Int))) = true then ((idx p0.from_ x5) >>= fun (y6 : GSource) => (appG 136 x3_5 y6.on_) >>= fun (y7 : List GExpr) => sL7Exprs_L2 p0 y7 (IntKind.wrap .i64 (x5 + 1))) else ((appG 136 x3_5 p0.where_) >>= fun (y8 : List GExpr) => sL7Exprs_L3 p0 y8 0)
  partial_fixpoint
mutual
def sL7Exprs_J1 (x4 : Int) (p0 : GQuery) (x3_4 : (List GExpr)) : Option (List GExpr) :=
  sL7Exprs_L0 p0 x3_4 (IntKind.wrap .i64 (x4 + 1))
  partial_fixpoint
def sL7Exprs_L0 (p0 : GQuery) (x3 : (List GExpr)) (x4 : Int) : Option (List GExpr) :=
  if (decide (x4 < (p0.items.length : Int))) = true then ((idx p0.items x4) >>= fun (y1 : GItem) => if (!y1.star) = true then ((idx p0.items x4) >>= fun (y2 : GItem) => (appG 136 x3 ([y2.expr] : List GExpr)) >>= fun (y3 : List GExpr) => sL7Exprs_J1 x4 p0 y3) else (sL7Exprs_J1 x4 p0 x3)) else (sL7Exprs_L2 p0 x3 0)
  partial_fixpoint
end
def sL7Exprs (p0 : GQuery) : Option (List GExpr) :=
  sL7Exprs_L0 p0 ([] : List GExpr) 0
def sL8Exprs_L0 (p0 : GStmt) (x3 : (List GExpr)) (x4 : Int) : Option (List GExpr) :=
  if (decide (x4 < (p0.rows.length : Int))) = true then ((idx p0.rows x4) >>= fun (y2 : (List GExpr)) => (appG 136 x3 y2) >>= fun (y3 : List GExpr) => sL8Exprs_L0 p0 y3 (IntKind.wrap .i64 (x4 + 1))) else ((appG 136 x3 p0.sets) >>= fun (y4 : List GExpr) => (appG 136 y4 p0.where_) >>= fun (y5 : List GExpr) => some y5)
  partial_fixpoint
def sL8Exprs (p0 : GStmt) : Option (List GExpr) :=
  (sL7Exprs p0.query) >>= fun (y1 : (List GExpr)) => sL8Exprs_L0 p0 y1 0
def sL1Max (p0 : Int) (p1 : Int) : Option Int :=
  if (decide (p1 < p0)) = true then (some p0) else (some p1)
mutual
def sQueryDepth_L0 (y1 : (List GExpr)) (x3 : Int) (x5 : Int) : Option Int :=
  if (decide (x5 < (y1.length : Int))) = true then ((idx y1 x5) >>= fun (y2 : GExpr) => (sDepthOf y2) >>= fun (y3 : Int) => (sL1Max x3 y3) >>= fun (y4 : Int) => sQueryDepth_L0 y1 y4 (IntKind.wrap .i64 (x5 + 1))) else (some x3)
  partial_fixpoint
def sQueryDepth (p0 : GQuery) : Option Int :=
  (sL7Exprs p0) >>= fun (y1 : (List GExpr)) => sQueryDepth_L0 y1 0 0
  partial_fixpoint
def sDepthOf_L1 (p0 : GExpr) (x3_4 : Int) (x5 : Int) : Option Int :=
  if (decide (x5 < (p0.sub.length : Int))) = true then ((idx p0.sub x5) >>= fun (y5 : GQuery) => (sQueryDepth y5) >>= fun (y6 : Int) => (sL1Max x3_4 y6) >>= fun (y7 : Int) => sDepthOf_L1 p0 y7 (IntKind.wrap .i64 (x5 + 1))) else (some (IntKind.wrap .i64 (x3_4 + 1)))
  partial_fixpoint
def sDepthOf_L0 (p0 : GExpr) (x3 : Int) (x4 : Int) : Option Int :=
  if (decide (x4 < (p0.kids.length : Int))) = true then ((idx p0.kids x4) >>= fun (y1 : GExpr) => (sDepthOf y1) >>= fun (y2 : Int) => (sL1Max x3 y2) >>= fun (y3 : Int) => sDepthOf_L0 p0 y3 (IntKind.wrap .i64 (x4 + 1))) else (sDepthOf_L1 p0 x3 0)
  partial_fixpoint
def sDepthOf (p0 : GExpr) : Option Int :=
  sDepthOf_L0 p0 0 0
  partial_fixpoint
end
def sStmtDepth_L0 (y1 : (List GExpr)) (x3 : Int) (x5 : Int) : Option Int :=
  if (decide (x5 < (y1.length : Int))) = true then ((idx y1 x5) >>= fun (y2 : GExpr) => (sDepthOf y2) >>= fun (y3 : Int) => (sL1Max x3 y3) >>= fun (y4 : Int) => sStmtDepth_L0 y1 y4 (IntKind.wrap .i64 (x5 + 1))) else (some x3)
  partial_fixpoint
def sStmtDepth (p0 : GStmt) : Option Int :=
  (sL8Exprs p0) >>= fun (y1 : (List GExpr)) => sStmtDepth_L0 y1 0 0
def wEqValue (p0 : GValue) (p1 : GValue) : Option Bool :=
  if (!decide (p0.kind = p1.kind)) = true then (some false) else (if (!decide (p0.num = p1.num)) = true then (some false) else (if (!decide (p0.text = p1.text)) = true then (some false) else (some true)))
mutual
def wEqSource (p0 : GSource) (p1 : GSource) : Option Bool :=
  if (!decide (p0.table = p1.table)) = true then (some false) else (if (!decide (p0.as_ = p1.as_)) = true then (some false) else ((wEqExprS p0.on_ p1.on_) >>= fun (y1 : Bool) => if (!y1) = true then (some false) else (some true)))
  partial_fixpoint
def wEqSourceS_L0 (p0 : (List GSource)) (p1 : (List GSource)) (x5 : Int) : Option Bool :=
  if (decide (x5 < (p0.length : Int))) = true then ((idx p0 x5) >>= fun (y1 : GSource) => (idx p1 x5) >>= fun (y2 : GSource) => (wEqSource y1 y2) >>= fun (y3 : Bool) => if (!y3) = true then (some false) else (wEqSourceS_L0 p0 p1 (IntKind.wrap .i64 (x5 + 1)))) else (some true)
  partial_fixpoint
def wEqSourceS (p0 : (List GSource)) (p1 : (List GSource)) : Option Bool :=
  if (!decide ((p0.length : Int) = (p1.length : Int))) = true then (some false) else (wEqSourceS_L0 p0 p1 0)
  partial_fixpoint
def wEqSortKey (p0 : GSortKey) (p1 : GSortKey) : Option Bool :=
  (wEqExpr p0.expr p1.expr) >>= fun (y1 : Bool) => if (!y1) = true then (some false) else (if (!(p0.desc == p1.desc)) = true then (some false) else (some true))
  partial_fixpoint
def wEqSortKeyS_L0 (p0 : (List GSortKey)) (p1 : (List GSortKey)) (x5 : Int) : Option Bool :=
  if (decide (x5 < (p0.length : Int))) = true then ((idx p0 x5) >>= fun (y1 : GSortKey) => (idx p1 x5) >>= fun (y2 : GSortKey) => (wEqSortKey y1 y2) >>= fun (y3 : Bool) => if (!y3) = true then (some false) else (wEqSortKeyS_L0 p0 p1 (IntKind.wrap .i64 (x5 + 1)))) else (some true)
  partial_fixpoint
def wEqSortKeyS (p0 : (List GSortKey)) (p1 : (List GSortKey)) : Option Bool :=
  if (!decide ((p0.length : Int) = (p1.length : Int))) = true then (some false) else (wEqSortKeyS_L0 p0 p1 0)
  partial_fixpoint
def wEqItem (p0 : GItem) (p1 : GItem) : Option Bool :=
  if (!(p0.star == p1.star)) = true then (some false) else (if (!decide (p0.qual = p1.qual)) = true then (some false) else ((wEqExpr p0.expr p1.expr) >>= fun (y1 : Bool) => if (!y1) = true then (some false) else (if (!decide (p0.as_ = p1.as_)) = true then (some false) else (some true))))
  partial_fixpoint
def wEqItemS_L0 (p0 : (List GItem)) (p1 : (List GItem)) (x5 : Int) : Option Bool :=
  if (decide (x5 < (p0.length : Int))) = true then ((idx p0 x5) >>= fun (y1 : GItem) => (idx p1 x5) >>= fun (y2 : GItem) => (wEqItem y1 y2) >>= fun (y3 : Bool) => if (!y3) = true then (some false) else (wEqItemS_L0 p0 p1 (IntKind.wrap .i64 (x5 + 1)))) else (some true)
  partial_fixpoint
def wEqItemS (p0 : (List GItem)) (p1 : (List GItem)) : Option Bool :=
  if (!decide ((p0.length : Int) = (p1.length : Int))) = true then (some false) else (wEqItemS_L0 p0 p1 0)
  partial_fixpoint
def wEqQuery (p0 : GQuery) (p1 : GQuery) : Option Bool :=
  if (!(p0.distinct == p1.distinct)) = true then (some false) else ((wEqItemS p0.items p1.items) >>= fun (y1 : Bool) => if (!y1) = true then (some false) else ((wEqSourceS p0.from_ p1.from_) >>= fun (y2 : Bool) => if (!y2) = true then (some false) else ((wEqExprS p0.where_ p1.where_) >>= fun (y3 : Bool) => if (!y3) = true then (some false) else ((wEqSortKeyS p0.order p1.order) >>= fun (y4 : Bool) => if (!y4) = true then (some false) else (if (!decide (p0.limit = p1.limit)) = true then (some false) else (some true))))))
  partial_fixpoint
def wEqQueryS_L0 (p0 : (List GQuery)) (p1 : (List GQuery)) (x5 : Int) : Option Bool :=
  if (decide (x5 < (p0.length : Int))) = true then ((idx p0 x5) >>= fun (y1 : GQuery) => (idx p1 x5) >>= fun (y2 : GQuery) => (wEqQuery y1 y2) >>= fun (y3 : Bool) => if (!y3) = true then (some false) else (wEqQueryS_L0 p0 p1 (IntKind.wrap .i64 (x5 + 1)))) else (some true)
  partial_fixpoint
def wEqQueryS (p0 : (List GQuery)) (p1 : (List GQuery)) : Option Bool :=
  if (!decide ((p0.length : Int) = (p1.length : Int))) = true then (some false) else (wEqQueryS_L0 p0 p1 0)
  partial_fixpoint
def wEqExpr (p0 : GExpr) (p1 : GExpr) : Option Bool :=
  if (!decide (p0.kind = p1.kind)) = true then (some false) else (if (!decide (p0.op = p1.op)) = true then (some false) else (if (!(p0.not_ == p1.not_)) = true then (some false) else ((wEqValue p0.value p1.value) >>= fun (y1 : Bool) => if (!y1) = true then (some false) else (if (!decide (p0.qual = p1.qual)) = true then (some false) else (if (!decide (p0.name = p1.name)) = true then (some false) else ((wEqExprS p0.kids p1.kids) >>= fun (y2 : Bool) => if (!y2) = true then (some false) else ((wEqQueryS p0.sub p1.sub) >>= fun (y3 : Bool) => if (!y3) = true then (some false) else (some true))))))))
  partial_fixpoint
def wEqExprS_L0 (p0 : (List GExpr)) (p1 : (List GExpr)) (x5 : Int) : Option Bool :=
  if (decide (x5 < (p0.length : Int))) = true then ((idx p0 x5) >>= fun (y1 : GExpr) => (idx p1 x5) >>= fun (y2 : GExpr) => (wEqExpr y1 y2) >>= fun (y3 : Bool) => if (!y3) = true then (some false) else (wEqExprS_L0 p0 p1 (IntKind.wrap .i64 (x5 + 1)))) else (some true)
  partial_fixpoint
def wEqExprS (p0 : (List GExpr)) (p1 : (List GExpr)) : Option Bool :=
  if (!decide ((p0.length : Int) = (p1.length : Int))) = true then (some false) else (wEqExprS_L0 p0 p1 0)
  partial_fixpoint
end
def wEqExprSS_L0 (p0 : (List (List GExpr))) (p1 : (List (List GExpr))) (x5 : Int) : Option Bool :=
  if (decide (x5 < (p0.length : Int))) = true then ((idx p0 x5) >>= fun (y1 : (List GExpr)) => (idx p1 x5) >>= fun (y2 : (List GExpr)) => (wEqExprS y1 y2) >>= fun (y3 : Bool) => if (!y3) = true then (some false) else (wEqExprSS_L0 p0 p1 (IntKind.wrap .i64 (x5 + 1)))) else (some true)
  partial_fixpoint
def wEqExprSS (p0 : (List (List GExpr))) (p1 : (List (List GExpr))) : Option Bool :=
  if (!decide ((p0.length : Int) = (p1.length : Int))) = true then (some false) else (wEqExprSS_L0 p0 p1 0)
def wEqStringS_L0 (p0 : (List (List UInt8))) (p1 : (List (List UInt8))) (x5 : Int) : Option Bool :=
  if (decide (x5 < (p0.length : Int))) = true then ((idx p0 x5) >>= fun (y1 : (List UInt8)) => (idx p1 x5) >>= fun (y2 : (List UInt8)) => if (!decide (y1 = y2)) = true then (some false) else (wEqStringS_L0 p0 p1 (IntKind.wrap .i64 (x5 + 1)))) else (some true)
  partial_fixpoint
def wEqStringS (p0 : (List (List UInt8))) (p1 : (List (List UInt8))) : Option Bool :=
  if (!decide ((p0.length : Int) = (p1.length : Int))) = true then (some false) else (wEqStringS_L0 p0 p1 0)
def wEqStmt (p0 : GStmt) (p1 : GStmt) : Option Bool :=
  if (!decide (p0.kind = p1.kind)) = true then (some false) else ((wEqQuery p0.query p1.query) >>= fun (y1 : Bool) => if (!y1) = true then (some false) else (if (!decide (p0.table = p1.table)) = true then (some false) else ((wEqExprSS p0.rows p1.rows) >>= fun (y2 : Bool) => if (!y2) = true then (some false) else ((wEqStringS p0.cols p1.cols) >>= fun (y3 : Bool) => if (!y3) = true then (some false) else ((wEqExprS p0.sets p1.sets) >>= fun (y4 : Bool) => if (!y4) = true then (some false) else ((wEqExprS p0.where_ p1.where_) >>= fun (y5 : Bool) => if (!y5) = true then (some false) else (some true)))))))
def wSzValue (p0 : GValue) (p1 : Int) : Option Int :=
  if (decide ((IntKind.wrap .i64 (p1 - (p0.text.length : Int))) < 0)) = true then (some (-1)) else (some (IntKind.wrap .i64 (p1 - (p0.text.length : Int))))
mutual
def wSzSource (p0 : GSource) (p1 : Int) : Option Int :=
  if (decide ((IntKind.wrap .i64 (p1 - (p0.table.length : Int))) < 0)) = true then (some (-1)) else (if (decide ((IntKind.wrap .i64 ((IntKind.wrap .i64 (p1 - (p0.table.length : Int))) - (p0.as_.length : Int))) < 0)) = true then (some (-1)) else ((wSzExprS p0.on_ (IntKind.wrap .i64 ((IntKind.wrap .i64 (p1 - (p0.table.length : Int))) - (p0.as_.length : Int)))) >>= fun (y1 : Int) => if (decide (y1 < 0)) = true then (some (-1)) else (some y1)))
  partial_fixpoint
def wSzSourceS_L0 (p0 : (List GSource)) (x1 : Int) (x5 : Int) : Option Int :=
  if (decide (x5 < (p0.length : Int))) = true then ((idx p0 x5) >>= fun (y1 : GSource) => (wSzSource y1 x1) >>= fun (y2 : Int) => if (decide (y2 < 0)) = true then (some (-1)) else (wSzSourceS_L0 p0 y2 (IntKind.wrap .i64 (x5 + 1)))) else (some x1)
  partial_fixpoint
def wSzSourceS (p0 : (List GSource)) (p1 : Int) : Option Int :=
  if (decide ((IntKind.wrap .i64 (p1 - (p0.length : Int))) < 0)) = true then (some (-1)) else (wSzSourceS_L0 p0 (IntKind.wrap .i64 (p1 - (p0.length : Int))) 0)
  partial_fixpoint
def wSzSortKey (p0 : GSortKey) (p1 : Int) : Option Int :=
  (wSzExpr p0.expr p1) >>= fun (y1 : Int) => if (decide (y1 < 0)) = true then (some (-1)) else (some y1)
  partial_fixpoint
def wSzSortKeyS_L0 (p0 : (List GSortKey)) (x1 : Int) (x5 : Int) : Option Int :=
  if (decide (x5 < (p0.length : Int))) = true then ((idx p0 x5) >>= fun (y1 : GSortKey) => (wSzSortKey y1 x1) >>= fun (y2 : Int) => if (decide (y2 < 0)) = true then (some (-1)) else (wSzSortKeyS_L0 p0 y2 (IntKind.wrap .i64 (x5 + 1)))) else (some x1)
  partial_fixpoint
def wSzSortKeyS (p0 : (List GSortKey)) (p1 : Int) : Option Int :=
  if (decide ((IntKind.wrap .i64 (p1 - (p0.length : Int))) < 0)) = true then (some (-1)) else (wSzSortKeyS_L0 p0 (IntKind.wrap .i64 (p1 - (p0.length : Int))) 0)
  partial_fixpoint
def wSzItem (p0 : GItem) (p1 : Int) : Option Int :=
  if (decide ((IntKind.wrap .i64 (p1 - (p0.qual.length : Int))) < 0)) = true then (some (-1)) else ((wSzExpr p0.expr (IntKind.wrap .i64 (p1 - (p0.qual.length : Int)))) >>= fun (y1 : Int) => if (decide (y1 < 0)) = true then (some (-1)) else (if (decide ((IntKind.wrap .i64 (y1 - (p0.as_.length : Int))) < 0)) = true then (some (-1)) else (some (IntKind.wrap .i64 (y1 - (p0.as_.length : Int))))))
  partial_fixpoint
def wSzItemS_L0 (p0 : (List GItem)) (x1 : Int) (x5 : Int) : Option Int :=
  if (decide (x5 < (p0.length : Int))) = true then ((idx p0 x5) >>= fun (y1 : GItem) => (wSzItem y1 x1) >>= fun (y2 : Int) => if (decide (y2 < 0)) = true then (some (-1)) else (wSzItemS_L0 p0 y2 (IntKind.wrap .i64 (x5 + 1)))) else (some x1)
  partial_fixpoint
def wSzItemS (p0 : (List GItem)) (p1 : Int) : Option Int :=
  if (decide ((IntKind.wrap .i64 (p1 - (p0.length : Int))) < 0)) = true then (some (-1)) else (wSzItemS_L0 p0 (IntKind.wrap .i64 (p1 - (p0.length : Int))) 0)
  partial_fixpoint
def wSzQuery (p0 : GQuery) (p1 : Int) : Option Int :=
  (wSzItemS p0.items p1) >>= fun (y1 : Int) => if (decide (y1 < 0)) = true then (some (-1)) else ((wSzSourceS p0.from_ y1) >>= fun (y2 : Int) => if (decide (y2 < 0)) = true then (some (-1)) else ((wSzExprS p0.where_ y2) >>= fun (y3 : Int) => if (decide (y3 < 0)) = true then (some (-1)) else ((wSzSortKeyS p0.order y3) >>= fun (y4 : Int) => if (decide (y4 < 0)) = true then (some (-1)) else (some y4))))
  partial_fixpoint
def wSzQueryS_L0 (p0 : (List GQuery)) (x1 : Int) (x5 : Int) : Option Int :=
  if (decide (x5 < (p0.length : Int))) = true then ((idx p0 x5) >>= fun (y1 : GQuery) => (wSzQuery y1 x1) >>= fun (y2 : Int) => if (decide (y2 < 0)) = true then (some (-1)) else (wSzQueryS_L0 p0 y2 (IntKind.wrap .i64 (x5 + 1)))) else (some x1)
  partial_fixpoint
def wSzQueryS (p0 : (List GQuery)) (p1 : Int) : Option Int :=
  if (decide ((IntKind.wrap .i64 (p1 - (p0.length : Int))) < 0)) = true then (some (-1)) else (wSzQueryS_L0 p0 (IntKind.wrap .i64 (p1 - (p0.length : Int))) 0)
  partial_fixpoint
def wSzExpr (p0 : GExpr) (p1 : Int) : Option Int :=
  (wSzValue p0.value p1) >>= fun (y1 : Int) => if (decide (y1 < 0)) = true then (some (-1)) else (if (decide ((IntKind.wrap .i64 (y1 - (p0.qual.length : Int))) < 0)) = true then (some (-1)) else (if (decide ((IntKind.wrap .i64 ((IntKind.wrap .i64 (y1 - (p0.qual.length : Int))) - (p0.name.length : Int))) < 0)) = true then (some (-1)) else ((wSzExprS p0.kids (IntKind.wrap .i64 ((IntKind.wrap .i64 (y1 - (p0.qual.length : Int))) - (p0.name.length : Int)))) >>= fun (y2 : Int) => if (decide (y2 < 0)) = true then (some (-1)) else ((wSzQueryS p0.sub y2) >>= fun (y3 : Int) => if (decide (y3 < 0)) = true then (some (-1)) else (some y3)))))
  partial_fixpoint
def wSzExprS_L0 (p0 : (List GExpr)) (x1 : Int) (x5 : Int) : Option Int :=
  if (decide (x5 < (p0.length : Int))) = true then ((idx p0 x5) >>= fun (y1 : GExpr) => (wSzExpr y1 x1) >>= fun (y2 : Int) => if (decide (y2 < 0)) = true then (some (-1)) else (wSzExprS_L0 p0 y2 (IntKind.wrap .i64 (x5 + 1)))) else (some x1)
  partial_fixpoint
def wSzExprS (p0 : (List GExpr)) (p1 : Int) : Option Int :=
  if (decide ((IntKind.wrap .i64 (p1 - (p0.length : Int))) < 0)) = true then (some (-1)) else (wSzExprS_L0 p0 (IntKind.wrap .i64 (p1 - (p0.length : Int))) 0)
  partial_fixpoint
end
def wSzExprSS_L0 (p0 : (List (List GExpr))) (x1 : Int) (x5 : Int) : Option Int :=
  if (decide (x5 < (p0.length : Int))) = true then ((idx p0 x5) >>= fun (y1 : (List GExpr)) => (wSzExprS y1 x1) >>= fun (y2 : Int) => if (decide (y2 < 0)) = true then (some (-1)) else (wSzExprSS_L0 p0 y2 (IntKind.wrap .i64 (x5 + 1)))) else (some x1)
  partial_fixpoint
def wSzExprSS (p0 : (List (List GExpr))) (p1 : Int) : Option Int :=
  if (decide ((IntKind.wrap .i64 (p1 - (p0.length : Int))) < 0)) = true then (some (-1)) else (wSzExprSS_L0 p0 (IntKind.wrap .i64 (p1 - (p0.length : Int))) 0)
def wSzStringS_L0 (p0 : (List (List UInt8))) (x1 : Int) (x5 : Int) : Option Int :=
  if (decide (x5 < (p0.length : Int))) = true then ((idx p0 x5) >>= fun (y1 : (List UInt8)) => if (decide ((IntKind.wrap .i64 (x1 - (y1.length : Int))) < 0)) = true then (some (-1)) else (wSzStringS_L0 p0 (IntKind.wrap .i64 (x1 - (y1.length : Int))) (IntKind.wrap .i64 (x5 + 1)))) else (some x1)
  partial_fixpoint
def wSzStringS (p0 : (List (List UInt8))) (p1 : Int) : Option Int :=
  if (decide ((IntKind.wrap .i64 (p1 - (p0.length : Int))) < 0)) = true then (some (-1)) else (wSzStringS_L0 p0 (IntKind.wrap .i64 (p1 - (p0.length : Int))) 0)
def wSzStmt (p0 : GStmt) (p1 : Int) : Option Int :=
  (wSzQuery p0.query p1) >>= fun (y1 : Int) => if (decide (y1 < 0)) = true then (some (-1)) else (if (decide ((IntKind.wrap .i64 (y1 - (p0.table.length : Int))) < 0)) = true then (some (-1)) else ((wSzExprSS p0.rows (IntKind.wrap .i64 (y1 - (p0.table.length : Int)))) >>= fun (y2 : Int) => if (decide (y2 < 0)) = true then (some (-1)) else ((wSzStringS p0.cols y2) >>= fun (y3 : Int) => if (decide (y3 < 0)) = true then (some (-1)) else ((wSzExprS p0.sets y3) >>= fun (y4 : Int) => if (decide (y4 < 0)) = true then (some (-1)) else ((wSzExprS p0.where_ y4) >>= fun (y5 : Int) => if (decide (y5 < 0)) = true then (some (-1)) else (some y5))))))
def wToValue (p0 : GValue) : Option GValue :=
  some p0
mutual
def wToSource (p0 : GSource) : Option GSource :=
  (wToExprS p0.on_) >>= fun (y1 : (List GExpr)) => some (GSource.mk p0.table p0.as_ y1)
  partial_fixpoint
def wToSourceS_L0 (p0 : (List GSource)) (x4 : Int) (b7_0 : (List GSource)) : Option (List GSource) :=
  if (decide (x4 < (p0.length : Int))) = true then ((idx p0 x4) >>= fun (y2 : GSource) => (wToSource y2) >>= fun (y3 : GSource) => (idx b7_0 x4) >>= fun (y4 : GSource) => (setG b7_0 x4 y3) >>= fun (y5 : (List GSource)) => wToSourceS_L0 p0 (IntKind.wrap .i64 (x4 + 1)) y5) else (some b7_0)
  partial_fixpoint
def wToSourceS (p0 : (List GSource)) : Option (List GSource) :=
  (mkG 56 (p0.length : Int) ((GSource.mk [] [] ([] : List GExpr)) : GSource)) >>= fun (y1 : (List GSource)) => wToSourceS_L0 p0 0 y1
  partial_fixpoint
def wToSortKey (p0 : GSortKey) : Option GSortKey :=
  (wToExpr p0.expr) >>= fun (y1 : GExpr) => some (GSortKey.mk y1 p0.desc)
  partial_fixpoint
def wToSortKeyS_L0 (p0 : (List GSortKey)) (x4 : Int) (b7_0 : (List GSortKey)) : Option (List GSortKey) :=
  if (decide (x4 < (p0.length : Int))) = true then ((idx p0 x4) >>= fun (y2 : GSortKey) => (wToSortKey y2) >>= fun (y3 : GSortKey) => (idx b7_0 x4) >>= fun (y4 : GSortKey) => (setG b7_0 x4 y3) >>= fun (y5 : (List GSortKey)) => wToSortKeyS_L0 p0 (IntKind.wrap .i64 (x4 + 1)) y5) else (some b7_0)
  partial_fixpoint
def wToSortKeyS (p0 : (List GSortKey)) : Option (List GSortKey) :=
  (mkG 144 (p0.length : Int) ((GSortKey.mk (GExpr.mk 0 0 false (GValue.mk 0 0 []) [] [] ([] : List GExpr) ([] : List GQuery)) false) : GSortKey)) >>= fun (y1 : (List GSortKey)) => wToSortKeyS_L0 p0 0 y1
  partial_fixpoint
def wToItem (p0 : GItem) : Option GItem :=
  (wToExpr p0.expr) >>= fun (y1 : GExpr) => some (GItem.mk p0.star p0.qual y1 p0.as_)
  partial_fixpoint
def wToItemS_L0 (p0 : (List GItem)) (x4 : Int) (b7_0 : (List GItem)) : Option (List GItem) :=
  if (decide (x4 < (p0.length : Int))) = true then ((idx p0 x4) >>= fun (y2 : GItem) => (wToItem y2) >>= fun (y3 : GItem) => (idx b7_0 x4) >>= fun (y4 : GItem) => (setG b7_0 x4 y3) >>= fun (y5 : (List GItem)) => wToItemS_L0 p0 (IntKind.wrap .i64 (x4 + 1)) y5) else (some b7_0)
  partial_fixpoint
def wToItemS (p0 : (List GItem)) : Option (List GItem) :=
  (mkG 176 (p0.length : Int) ((GItem.mk false [] (GExpr.mk 0 0 false (GValue.mk 0 0 []) [] [] ([] : List GExpr) ([] : List GQuery)) []) : GItem)) >>= fun (y1 : (List GItem)) => wToItemS_L0 p0 0 y1
  partial_fixpoint
def wToQuery (p0 : GQuery) : Option GQuery :=
  (wToItemS p0.items) >>= fun (y1 : (List GItem)) => (wToSourceS p0.from_) >>= fun (y2 : (List GSource)) => (wToExprS p0.where_) >>= fun (y3 : (List GExpr)) => (wToSortKeyS p0.order) >>= fun (y4 : (List GSortKey)) => some (GQuery.mk p0.distinct y1 y2 y3 y4 p0.limit)
  partial_fixpoint
def wToQueryS_L0 (p0 : (List GQuery)) (x4 : Int) (b7_0 : (List GQuery)) : Option (List GQuery) :=
  if (decide (x4 < (p0.length : Int))) = true then ((idx p0 x4) >>= fun (y2 : GQuery) => (wToQuery y2) >>= fun (y3 : GQuery) => (idx b7_0 x4) >>= fun (y4 : GQuery) => (setG b7_0 x4 y3) >>= fun (y5 : (List GQuery)) => wToQueryS_L0 p0 (IntKind.wrap .i64 (x4 + 1)) y5) else (some b7_0)
  partial_fixpoint
def wToQueryS (p0 : (List GQuery)) : Option (List GQuery) :=
  (mkG 112 (p0.length : Int) ((GQuery.mk false ([] : List GItem) ([] : List GSource) ([] : List GExpr) ([] : List GSortKey) 0) : GQuery)) >>= fun (y1 : (List GQuery)) => wToQueryS_L0 p0 0 y1
  partial_fixpoint
def wToExpr (p0 : GExpr) : Option GExpr :=
  (wToValue p0.value) >>= fun (y1 : GValue) => (wToExprS p0.kids) >>= fun (y2 : (List GExpr)) => (wToQueryS p0.sub) >>= fun (y3 : (List GQuery)) => some (GExpr.mk p0.kind p0.op p0.not_ y1 p0.qual p0.name y2 y3)
  partial_fixpoint
def wToExprS_L0 (p0 : (List GExpr)) (x4 : Int) (b7_0 : (List GExpr)) : Option (List GExpr) :=
  if (decide (x4 < (p0.length : Int))) = true then ((idx p0 x4) >>= fun (y2 : GExpr) => (wToExpr y2) >>= fun (y3 : GExpr) => (idx b7_0 x4) >>= fun (y4 : GExpr) => (setG b7_0 x4 y3) >>= fun (y5 : (List GExpr)) => wToExprS_L0 p0 (IntKind.wrap .i64 (x4 + 1)) y5) else (some b7_0)
  partial_fixpoint
def wToExprS (p0 : (List GExpr)) : Option (List GExpr) :=
  (mkG 136 (p0.length : Int) ((GExpr.mk 0 0 false (GValue.mk 0 0 []) [] [] ([] : List GExpr) ([] : List GQuery)) : GExpr)) >>= fun (y1 : (List GExpr)) => wToExprS_L0 p0 0 y1
  partial_fixpoint
end
def wToExprSS_L0 (p0 : (List (List GExpr))) (x4 : Int) (b7_0 : (List (List GExpr))) : Option (List (List GExpr)) :=
  if (decide (x4 < (p0.length : Int))) = true then ((idx p0 x4) >>= fun (y2 : (List GExpr)) => (wToExprS y2) >>= fun (y3 : (List GExpr)) => (idx b7_0 x4) >>= fun (y4 : (List GExpr)) => (setG b7_0 x4 y3) >>= fun (y5 : (List (List GExpr))) => wToExprSS_L0 p0 (IntKind.wrap .i64 (x4 + 1)) y5) else (some b7_0)
  partial_fixpoint
def wToExprSS (p0 : (List (List GExpr))) : Option (List (List GExpr)) :=
  (mkG 24 (p0.length : Int) (([] : List GExpr) : (List GExpr))) >>= fun (y1 : (List (List GExpr))) => wToExprSS_L0 p0 0 y1
def wToStringS_L0 (p0 : (List (List UInt8))) (x4 : Int) (b7_0 : (List (List UInt8))) : Option (List (List UInt8)) :=
  if (decide (x4 < (p0.length : Int))) = true then ((idx p0 x4) >>= fun (y2 : (List UInt8)) => (idx b7_0 x4) >>= fun (y3 : (List UInt8)) => (setG b7_0 x4 y2) >>= fun (y4 : (List (List UInt8))) => wToStringS_L0 p0 (IntKind.wrap .i64 (x4 + 1)) y4) else (some b7_0)
  partial_fixpoint
def wToStringS (p0 : (List (List UInt8))) : Option (List (List UInt8)) :=
  (mkG 16 (p0.length : Int) ([] : (List UInt8))) >>= fun (y1 : (List (List UInt8))) => wToStringS_L0 p0 0 y1
def wToStmt (p0 : GStmt) : Option GStmt :=
  (wToQuery p0.query) >>= fun (y1 : GQuery) => (wToExprSS p0.rows) >>= fun (y2 : (List (List GExpr))) => (wToStringS p0.cols) >>= fun (y3 : (List (List UInt8))) => (wToExprS p0.sets) >>= fun (y4 : (List GExpr)) => (wToExprS p0.where_) >>= fun (y5 : (List GExpr)) => some (GStmt.mk p0.kind y1 p0.table y2 y3 y4 y5)
def wFnExactStmtDepth (p0 : GStmt) : Option Bool :=
  (wSzStmt p0 1048576) >>= fun (y1 : Int) => if (decide (y1 < 0)) = true then (some true) else ((wToStmt p0) >>= fun (y2 : GStmt) => (sStmtDepth y2) >>= fun (y3 : Int) => (wToStmt p0) >>= fun (y4 : GStmt) => (iStmtDepth y4) >>= fun (y5 : Int) => if (!decide (y5 = y3)) = true then (some false) else ((wToStmt p0) >>= fun (y6 : GStmt) => (wEqStmt y4 y6) >>= fun (y7 : Bool) => if (!y7) = true then (some false) else (some true)))
end Go.Ab
