/- The functions of the program, as Lean functions (printed by a program). -/
import Derived.Test.YtdiknmniclancaaGreatAbF0
namespace Go.Ab
open Go
structure GValue where
  kind : Int
  num : Int
  text : (List UInt8)
instance : Inhabited GValue := ⟨(GValue.mk 0 0 [])⟩
mutual
structure GExpr where
  kind : Int
  op : Int
  not_ : Bool
  value : GValue
  qual : (List UInt8)
  name : (List UInt8)
  kids : (List GExpr)
  sub : (List GQuery)
structure GItem where
  star : Bool
  qual : (List UInt8)
  expr : GExpr
  as_ : (List UInt8)
structure GQuery where
  distinct : Bool
  items : (List GItem)
  from_ : (List GSource)
  where_ : (List GExpr)
  order : (List GSortKey)
  limit : Int
structure GSortKey where
  expr : GExpr
  desc : Bool
structure GSource where
  table : (List UInt8)
  as_ : (List UInt8)
  on_ : (List GExpr)
end
instance : Inhabited GExpr := ⟨(GExpr.mk 0 0 false (GValue.mk 0 0 []) [] [] [] [])⟩
instance : Inhabited GItem := ⟨(GItem.mk false [] (GExpr.mk 0 0 false (GValue.mk 0 0 []) [] [] [] []) [])⟩
instance : Inhabited GQuery := ⟨(GQuery.mk false [] [] [] [] 0)⟩
instance : Inhabited GSortKey := ⟨(GSortKey.mk (GExpr.mk 0 0 false (GValue.mk 0 0 []) [] [] [] []) false)⟩
instance : Inhabited GSource := ⟨(GSource.mk [] [] [])⟩
structure GStmt where
  kind : Int
  query : GQuery
  table : (List UInt8)
  rows : (List (List GExpr))
  cols : (List (List UInt8))
  sets : (List GExpr)
  where_ : (List GExpr)
instance : Inhabited GStmt := ⟨(GStmt.mk 0 (GQuery.mk false [] [] [] [] 0) [] [] [] [] [])⟩
structure GForm where
  op : Bool
  not_ : Bool
  value : Bool
  name : Bool
  least : Int
  most : Int
  subs : Int
instance : Inhabited GForm := ⟨(GForm.mk false false false false 0 0 0)⟩
def okGValue (x : GValue) : Prop := okI x.kind ∧ okI x.num ∧ okS x.text
mutual
def okGExpr : GExpr → Prop
  | ⟨a0, a1, a2, a3, a4, a5, a6, a7⟩ => okI a0 ∧ okI a1 ∧ okB a2 ∧ okGValue a3 ∧ okS a4 ∧ okS a5 ∧ (a6.length ≤ 9223372036854775807 ∧ okLGExpr a6) ∧ (a7.length ≤ 9223372036854775807 ∧ okLGQuery a7)
def okGItem : GItem → Prop
  | ⟨a0, a1, a2, a3⟩ => okB a0 ∧ okS a1 ∧ okGExpr a2 ∧ okS a3
def okGQuery : GQuery → Prop
  | ⟨a0, a1, a2, a3, a4, a5⟩ => okB a0 ∧ (a1.length ≤ 9223372036854775807 ∧ okLGItem a1) ∧ (a2.length ≤ 9223372036854775807 ∧ okLGSource a2) ∧ (a3.length ≤ 9223372036854775807 ∧ okLGExpr a3) ∧ (a4.length ≤ 9223372036854775807 ∧ okLGSortKey a4) ∧ okI a5
def okGSortKey : GSortKey → Prop
  | ⟨a0, a1⟩ => okGExpr a0 ∧ okB a1
def okGSource : GSource → Prop
  | ⟨a0, a1, a2⟩ => okS a0 ∧ okS a1 ∧ (a2.length ≤ 9223372036854775807 ∧ okLGExpr a2)
def okLGExpr : List GExpr → Prop
  | [] => True
  | x :: l => okGExpr x ∧ okLGExpr l
def okLGItem : List GItem → Prop
  | [] => True
  | x :: l => okGItem x ∧ okLGItem l
def okLGQuery : List GQuery → Prop
  | [] => True
  | x :: l => okGQuery x ∧ okLGQuery l
def okLGSortKey : List GSortKey → Prop
  | [] => True
  | x :: l => okGSortKey x ∧ okLGSortKey l
def okLGSource : List GSource → Prop
  | [] => True
  | x :: l => okGSource x ∧ okLGSource l
end
def okGStmt (x : GStmt) : Prop := okI x.kind ∧ okGQuery x.query ∧ okS x.table ∧ (okL (okL okGExpr)) x.rows ∧ (okL okS) x.cols ∧ (okL okGExpr) x.sets ∧ (okL okGExpr) x.where_
def okGForm (x : GForm) : Prop := okB x.op ∧ okB x.not_ ∧ okB x.value ∧ okB x.name ∧ okI x.least ∧ okI x.most ∧ okI x.subs
def iStmtOk_1 (p0 : (List GExpr)) : Option Bool :=
  (some (if (decide ((p0.length : Int) < 1)) = true then true else (decide (12 < (p0.length : Int))))) >>= fun (y1 : Bool) => some y1
def gZ10_L0 (p0 : (List (List GExpr))) (x8 : Int) : Option Int :=
  if (decide (x8 < (p0.length : Int))) = true then ((idx p0 x8) >>= fun (y1 : (List GExpr)) => (iStmtOk_1 y1) >>= fun (y2 : Bool) => if y2 = true then (some x8) else (gZ10_L0 p0 (IntKind.wrap .i64 (x8 + 1)))) else (some (-1))
  partial_fixpoint
def gZ10 (p0 : (List (List GExpr))) : Option Int :=
  gZ10_L0 p0 0
def gZ7 (p0 : (List (List GExpr))) : Option Bool :=
  (gZ10 p0) >>= fun (y1 : Int) => some (decide (0 ≤ y1))
def iNameOk (p0 : (List UInt8)) : Option Bool :=
  (some (if (decide (1 ≤ (p0.length : Int))) = true then (decide ((p0.length : Int) ≤ 20)) else false)) >>= fun (y1 : Bool) => some y1
def iStmtOk_2 (p0 : (List UInt8)) : Option Bool :=
  (iNameOk p0) >>= fun (y1 : Bool) => some (!y1)
def gZ12_L0 (p0 : (List (List UInt8))) (x8 : Int) : Option Int :=
  if (decide (x8 < (p0.length : Int))) = true then ((idx p0 x8) >>= fun (y1 : (List UInt8)) => (iStmtOk_2 y1) >>= fun (y2 : Bool) => if y2 = true then (some x8) else (gZ12_L0 p0 (IntKind.wrap .i64 (x8 + 1)))) else (some (-1))
  partial_fixpoint
def gZ12 (p0 : (List (List UInt8))) : Option Int :=
  gZ12_L0 p0 0
def gZ11 (p0 : (List (List UInt8))) : Option Bool :=
  (gZ12 p0) >>= fun (y1 : Int) => some (decide (0 ≤ y1))
def iIsAs (p0 : (List UInt8)) : Option Bool :=
  (if (true && ((decide (p0 = [])) == false)) = true then iNameOk p0 else some default) >>= fun (y1 : Bool) => (some (if (decide (p0 = [])) = true then true else y1)) >>= fun (y2 : Bool) => some y2
def iQuery_exprs_L3 (p0 : GQuery) (x3_8 : (List GExpr)) (x46 : Int) : Option (List GExpr) :=
  if (decide (x46 < (p0.order.length : Int))) = true then ((idx p0.order x46) >>= fun (y9 : GSortKey) => (appG 136 x3_8 ([y9.expr] : List GExpr)) >>= fun (y10 : List GExpr) => iQuery_exprs_L3 p0 y10 (IntKind.wrap .i64 (x46 + 1))) else (some x3_8)
  partial_fixpoint
def iQuery_exprs_L2 (p0 : GQuery) (x3_4 : (List GExpr)) (x30 : Int) : Option (List GExpr) :=
  if (decide (x30 < (p0.from_.length : Int))) = true then ((idx p0.from_ x30) >>= fun (y5 : GSource) => (appG 136 x3_4 y5.on_) >>= fun (y6 : List GExpr) => iQuery_exprs_L2 p0 y6 (IntKind.wrap .i64 (x30 + 1))) else ((appG 136 x3_4 p0.where_) >>= fun (y7 : List GExpr) => iQuery_exprs_L3 p0 y7 0)
  partial_fixpoint
mutual
def iQuery_exprs_J1 (p0 : GQuery) (x14 : Int) (x3_3 : (List GExpr)) : Option (List GExpr) :=
  iQuery_exprs_L0 p0 x3_3 (IntKind.wrap .i64 (x14 + 1))
  partial_fixpoint
def iQuery_exprs_L0 (p0 : GQuery) (x3 : (List GExpr)) (x14 : Int) : Option (List GExpr) :=
  if (decide (x14 < (p0.items.length : Int))) = true then ((idx p0.items x14) >>= fun (y1 : GItem) => if (!y1.star) = true then ((appG 136 x3 ([y1.expr] : List GExpr)) >>= fun (y2 : List GExpr) => iQuery_exprs_J1 p0 x14 y2) else (iQuery_exprs_J1 p0 x14 x3)) else (iQuery_exprs_L2 p0 x3 0)
  partial_fixpoint
end
def iQuery_exprs (p0 : GQuery) : Option (List GExpr) :=
  iQuery_exprs_L0 p0 ([] : List GExpr) 0
mutual
def gZ4_L0 (p1 : (List GExpr)) (p0 : (List GExpr)) (x17 : Int) : Option Bool :=
  if (decide (x17 < (p0.length : Int))) = true then ((idx p0 x17) >>= fun (y1 : GExpr) => (idx p1 x17) >>= fun (y2 : GExpr) => (iSameExpr y1 y2) >>= fun (y3 : Bool) => if (!y3) = true then (some false) else (gZ4_L0 p1 p0 (IntKind.wrap .i64 (x17 + 1)))) else (some true)
  partial_fixpoint
def gZ4 (p0 : (List GExpr)) (p1 : (List GExpr)) : Option Bool :=
  if (!decide ((p0.length : Int) = (p1.length : Int))) = true then (some false) else (gZ4_L0 p1 p0 0)
  partial_fixpoint
def iSameExprs (p0 : (List GExpr)) (p1 : (List GExpr)) : Option Bool :=
  (gZ4 p0 p1) >>= fun (y1 : Bool) => some y1
  partial_fixpoint
def iSameQuery_2 (p0 : GSource) (p1 : GSource) : Option Bool :=
  (some (if (decide (p0.table = p1.table)) = true then (decide (p0.as_ = p1.as_)) else false)) >>= fun (y1 : Bool) => (if (true && (y1 == true)) = true then iSameExprs p0.on_ p1.on_ else some default) >>= fun (y2 : Bool) => (some (if y1 = true then y2 else false)) >>= fun (y3 : Bool) => some y3
  partial_fixpoint
def gZ1_L0 (p1 : (List GSource)) (p0 : (List GSource)) (x17 : Int) : Option Bool :=
  if (decide (x17 < (p0.length : Int))) = true then ((idx p0 x17) >>= fun (y1 : GSource) => (idx p1 x17) >>= fun (y2 : GSource) => (iSameQuery_2 y1 y2) >>= fun (y3 : Bool) => if (!y3) = true then (some false) else (gZ1_L0 p1 p0 (IntKind.wrap .i64 (x17 + 1)))) else (some true)
  partial_fixpoint
def gZ1 (p0 : (List GSource)) (p1 : (List GSource)) : Option Bool :=
  if (!decide ((p0.length : Int) = (p1.length : Int))) = true then (some false) else (gZ1_L0 p1 p0 0)
  partial_fixpoint
def iSameQuery_3 (p0 : GSortKey) (p1 : GSortKey) : Option Bool :=
  (if (true && ((p0.desc == p1.desc) == true)) = true then iSameExpr p0.expr p1.expr else some default) >>= fun (y1 : Bool) => (some (if (p0.desc == p1.desc) = true then y1 else false)) >>= fun (y2 : Bool) => some y2
  partial_fixpoint
def gZ0_L0 (p1 : (List GSortKey)) (p0 : (List GSortKey)) (x17 : Int) : Option Bool :=
  if (decide (x17 < (p0.length : Int))) = true then ((idx p0 x17) >>= fun (y1 : GSortKey) => (idx p1 x17) >>= fun (y2 : GSortKey) => (iSameQuery_3 y1 y2) >>= fun (y3 : Bool) => if (!y3) = true then (some false) else (gZ0_L0 p1 p0 (IntKind.wrap .i64 (x17 + 1)))) else (some true)
  partial_fixpoint
def gZ0 (p0 : (List GSortKey)) (p1 : (List GSortKey)) : Option Bool :=
  if (!decide ((p0.length : Int) = (p1.length : Int))) = true then (some false) else (gZ0_L0 p1 p0 0)
  partial_fixpoint
def iSameQuery_1 (p0 : GItem) (p1 : GItem) : Option Bool :=
  (some (if (p0.star == p1.star) = true then (decide (p0.qual = p1.qual)) else false)) >>= fun (y1 : Bool) => (some (if y1 = true then (decide (p0.as_ = p1.as_)) else false)) >>= fun (y2 : Bool) => (if (true && (y2 == true)) = true then iSameExpr p0.expr p1.expr else some default) >>= fun (y3 : Bool) => (some (if y2 = true then y3 else false)) >>= fun (y4 : Bool) => some y4
  partial_fixpoint
def gZ3_L0 (p1 : (List GItem)) (p0 : (List GItem)) (x17 : Int) : Option Bool :=
  if (decide (x17 < (p0.length : Int))) = true then ((idx p0 x17) >>= fun (y1 : GItem) => (idx p1 x17) >>= fun (y2 : GItem) => (iSameQuery_1 y1 y2) >>= fun (y3 : Bool) => if (!y3) = true then (some false) else (gZ3_L0 p1 p0 (IntKind.wrap .i64 (x17 + 1)))) else (some true)
  partial_fixpoint
def gZ3 (p0 : (List GItem)) (p1 : (List GItem)) : Option Bool :=
  if (!decide ((p0.length : Int) = (p1.length : Int))) = true then (some false) else (gZ3_L0 p1 p0 0)
  partial_fixpoint
def iSameQuery (p0 : GQuery) (p1 : GQuery) : Option Bool :=
  (some (if (p0.distinct == p1.distinct) = true then (decide (p0.limit = p1.limit)) else false)) >>= fun (y1 : Bool) => (if (true && (y1 == true)) = true then gZ3 p0.items p1.items else some default) >>= fun (y2 : Bool) => (some (if y1 = true then y2 else false)) >>= fun (y3 : Bool) => (if (true && (y3 == true)) = true then gZ1 p0.from_ p1.from_ else some default) >>= fun (y4 : Bool) => (some (if y3 = true then y4 else false)) >>= fun (y5 : Bool) => (if (true && (y5 == true)) = true then iSameExprs p0.where_ p1.where_ else some default) >>= fun (y6 : Bool) => (some (if y5 = true then y6 else false)) >>= fun (y7 : Bool) => (if (true && (y7 == true)) = true then gZ0 p0.order p1.order else some default) >>= fun (y8 : Bool) => (some (if y7 = true then y8 else false)) >>= fun (y9 : Bool) => some y9
  partial_fixpoint
def gZ2_L0 (p1 : (List GQuery)) (p0 : (List GQuery)) (x17 : Int) : Option Bool :=
  if (decide (x17 < (p0.length : Int))) = true then ((idx p0 x17) >>= fun (y1 : GQuery) => (idx p1 x17) >>= fun (y2 : GQuery) => (iSameQuery y1 y2) >>= fun (y3 : Bool) => if (!y3) = true then (some false) else (gZ2_L0 p1 p0 (IntKind.wrap .i64 (x17 + 1)))) else (some true)
  partial_fixpoint
def gZ2 (p0 : (List GQuery)) (p1 : (List GQuery)) : Option Bool :=
  if (!decide ((p0.length : Int) = (p1.length : Int))) = true then (some false) else (gZ2_L0 p1 p0 0)
  partial_fixpoint
def iSameExpr (p0 : GExpr) (p1 : GExpr) : Option Bool :=
  (some (if (decide (p0.kind = p1.kind)) = true then (decide (p0.op = p1.op)) else false)) >>= fun (y1 : Bool) => (some (if y1 = true then (p0.not_ == p1.not_) else false)) >>= fun (y2 : Bool) => (some (if y2 = true then ((decide (p0.value.kind = p1.value.kind)) && ((decide (p0.value.num = p1.value.num)) && ((decide (p0.value.text = p1.value.text)) && true))) else false)) >>= fun (y3 : Bool) => (some (if y3 = true then (decide (p0.qual = p1.qual)) else false)) >>= fun (y4 : Bool) => (some (if y4 = true then (decide (p0.name = p1.name)) else false)) >>= fun (y5 : Bool) => (if (true && (y5 == true)) = true then iSameExprs p0.kids p1.kids else some default) >>= fun (y6 : Bool) => (some (if y5 = true then y6 else false)) >>= fun (y7 : Bool) => (if (true && (y7 == true)) = true then gZ2 p0.sub p1.sub else some default) >>= fun (y8 : Bool) => (some (if y7 = true then y8 else false)) >>= fun (y9 : Bool) => some y9
  partial_fixpoint
end
def iIsZero (p0 : GExpr) : Option Bool :=
  (iSameExpr p0 (GExpr.mk 0 0 false (GValue.mk 0 0 []) [] [] ([] : List GExpr) ([] : List GQuery))) >>= fun (y1 : Bool) => some y1
def iValueOk (p0 : GValue) : Option Bool :=
  if (decide (p0.kind = 0)) = true then ((some (if (decide (p0.num = 0)) = true then (decide (p0.text = [])) else false)) >>= fun (y1 : Bool) => some y1) else (if (decide (p0.kind = 1)) = true then (some (decide (p0.text = []))) else (if (decide (p0.kind = 2)) = true then ((some (if (decide (p0.num = 0)) = true then (decide ((p0.text.length : Int) ≤ 200)) else false)) >>= fun (y2 : Bool) => some y2) else (if (decide (p0.kind = 3)) = true then ((some (if (decide (p0.num = 0)) = true then true else (decide (p0.num = 1)))) >>= fun (y3 : Bool) => (some (if y3 = true then (decide (p0.text = [])) else false)) >>= fun (y4 : Bool) => some y4) else (some false))))
def iIsLit (p0 : GValue) : Option Bool :=
  (iValueOk p0) >>= fun (y1 : Bool) => (if (true && (y1 == true)) = true then some (if (!decide (p0.kind = 1)) = true then true else (decide (0 ≤ p0.num))) else some default) >>= fun (y2 : Bool) => (some (if y1 = true then y2 else false)) >>= fun (y3 : Bool) => (some (if y3 = true then (decide ((p0.text.length : Int) ≤ 40)) else false)) >>= fun (y4 : Bool) => some y4
def iFormOf (p0 : GExpr) : Option (GForm × Bool) :=
  if (decide (p0.kind = 1)) = true then ((iIsLit p0.value) >>= fun (y1 : Bool) => some ((GForm.mk false false true false 0 0 0), y1)) else (if (decide (p0.kind = 2)) = true then ((iNameOk p0.name) >>= fun (y2 : Bool) => (if ((true && (y2 == true)) && ((decide (p0.qual = [])) == false)) = true then iNameOk p0.qual else some default) >>= fun (y3 : Bool) => (if (true && (y2 == true)) = true then some (if (decide (p0.qual = [])) = true then true else y3) else some default) >>= fun (y4 : Bool) => (some (if y2 = true then y4 else false)) >>= fun (y5 : Bool) => some ((GForm.mk false false false true 0 0 0), y5)) else (if (decide (p0.kind = 3)) = true then ((some (if (decide (p0.op = 15)) = true then true else (decide (p0.op = 16)))) >>= fun (y6 : Bool) => some ((GForm.mk true false false false 1 1 0), y6)) else (if (decide (p0.kind = 4)) = true then ((some (if (decide (1 ≤ p0.op)) = true then (decide (p0.op ≤ 14)) else false)) >>= fun (y7 : Bool) => some ((GForm.mk true false false false 2 2 0), y7)) else (if (decide (p0.kind = 5)) = true then (some ((GForm.mk false true false false 1 1 0), true)) else (if (decide (p0.kind = 6)) = true then (some ((GForm.mk false true false false 3 3 0), true)) else (if (decide (p0.kind = 7)) = true then (some ((GForm.mk false true false false 2 9 0), true)) else (if (decide (p0.kind = 8)) = true then (some ((GForm.mk false true false false 1 1 1), true)) else (if (decide (p0.kind = 9)) = true then (some ((GForm.mk false false false false 0 0 1), true)) else (some ((GForm.mk false false false false 0 0 0), false))))))))))
mutual
def iIsFormedQuery_L1 (p0 : GQuery) (x92 : Int) : Option Bool :=
  if (decide (x92 < (p0.from_.length : Int))) = true then ((idx p0.from_ x92) >>= fun (y17 : GSource) => (iNameOk y17.table) >>= fun (y18 : Bool) => (if (true && ((!y18) == false)) = true then iIsAs y17.as_ else some default) >>= fun (y19 : Bool) => (some (if (!y18) = true then true else (!y19))) >>= fun (y20 : Bool) => (some (if y20 = true then true else (decide (1 < (y17.on_.length : Int))))) >>= fun (y21 : Bool) => (if (true && (y21 == false)) = true then some (if (decide (x92 = 0)) = true then (decide (0 < (y17.on_.length : Int))) else false) else some default) >>= fun (y22 : Bool) => (some (if y21 = true then true else y22)) >>= fun (y23 : Bool) => if y23 = true then (some false) else (iIsFormedQuery_L1 p0 (IntKind.wrap .i64 (x92 + 1)))) else ((iQuery_exprs p0) >>= fun (y24 : (List GExpr)) => (iAreFormed y24) >>= fun (y25 : Bool) => some y25)
  partial_fixpoint
def iIsFormedQuery_L0 (p0 : GQuery) (x49 : Int) : Option Bool :=
  if (decide (x49 < (p0.items.length : Int))) = true then ((idx p0.items x49) >>= fun (y7 : GItem) => (if (true && (y7.star == true)) = true then iIsAs y7.qual else some default) >>= fun (y8 : Bool) => (if (true && (y7.star == true)) = true then some (if (!y8) = true then true else (!decide (y7.as_ = []))) else some default) >>= fun (y9 : Bool) => (if ((true && (y7.star == true)) && (y9 == false)) = true then iIsZero y7.expr else some default) >>= fun (y10 : Bool) => (if (true && (y7.star == true)) = true then some (if y9 = true then true else (!y10)) else some default) >>= fun (y11 : Bool) => (some (if y7.star = true then y11 else false)) >>= fun (y12 : Bool) => (if (((true && (y12 == false)) && ((!y7.star) == true)) && ((!decide (y7.qual = [])) == false)) = true then iIsAs y7.as_ else some default) >>= fun (y13 : Bool) => (if ((true && (y12 == false)) && ((!y7.star) == true)) = true then some (if (!decide (y7.qual = [])) = true then true else (!y13)) else some default) >>= fun (y14 : Bool) => (if (true && (y12 == false)) = true then some (if (!y7.star) = true then y14 else false) else some default) >>= fun (y15 : Bool) => (some (if y12 = true then true else y15)) >>= fun (y16 : Bool) => if y16 = true then (some false) else (iIsFormedQuery_L0 p0 (IntKind.wrap .i64 (x49 + 1)))) else (iIsFormedQuery_L1 p0 0)
  partial_fixpoint
def iIsFormedQuery (p0 : GQuery) : Option Bool :=
  (some (if (decide ((p0.items.length : Int) < 1)) = true then true else (decide (12 < (p0.items.length : Int))))) >>= fun (y1 : Bool) => (some (if y1 = true then true else (decide ((p0.from_.length : Int) < 1)))) >>= fun (y2 : Bool) => (some (if y2 = true then true else (decide (3 < (p0.from_.length : Int))))) >>= fun (y3 : Bool) => (some (if y3 = true then true else (decide (1 < (p0.where_.length : Int))))) >>= fun (y4 : Bool) => (some (if y4 = true then true else (decide (12 < (p0.order.length : Int))))) >>= fun (y5 : Bool) => (some (if y5 = true then true else (decide (p0.limit < (-1))))) >>= fun (y6 : Bool) => if y6 = true then (some false) else (iIsFormedQuery_L0 p0 0)
  partial_fixpoint
def iIsFormed_1 (p0 : GQuery) : Option Bool :=
  (iIsFormedQuery p0) >>= fun (y1 : Bool) => some (!y1)
  partial_fixpoint
def gZ8_L0 (p0 : (List GQuery)) (x8 : Int) : Option Int :=
  if (decide (x8 < (p0.length : Int))) = true then ((idx p0 x8) >>= fun (y1 : GQuery) => (iIsFormed_1 y1) >>= fun (y2 : Bool) => if y2 = true then (some x8) else (gZ8_L0 p0 (IntKind.wrap .i64 (x8 + 1)))) else (some (-1))
  partial_fixpoint
def gZ8 (p0 : (List GQuery)) : Option Int :=
  gZ8_L0 p0 0
  partial_fixpoint
def gZ5 (p0 : (List GQuery)) : Option Bool :=
  (gZ8 p0) >>= fun (y1 : Int) => some (decide (0 ≤ y1))
  partial_fixpoint
def iIsFormed (p0 : GExpr) : Option Bool :=
  (iFormOf p0) >>= fun (y1 : GForm × Bool) => (if (true && ((!y1.2) == false)) = true then some (if (!y1.1.op) = true then (!decide (p0.op = 0)) else false) else some default) >>= fun (y2 : Bool) => (some (if (!y1.2) = true then true else y2)) >>= fun (y3 : Bool) => (if (true && (y3 == false)) = true then some (if (!y1.1.not_) = true then p0.not_ else false) else some default) >>= fun (y4 : Bool) => (some (if y3 = true then true else y4)) >>= fun (y5 : Bool) => (if (true && (y5 == false)) = true then some (if (!y1.1.value) = true then (!((decide (p0.value.kind = 0)) && ((decide (p0.value.num = 0)) && ((decide (p0.value.text = [])) && true)))) else false) else some default) >>= fun (y6 : Bool) => (some (if y5 = true then true else y6)) >>= fun (y7 : Bool) => (if ((true && (y7 == false)) && ((!y1.1.name) == true)) = true then some (if (!decide (p0.qual = [])) = true then true else (!decide (p0.name = []))) else some default) >>= fun (y8 : Bool) => (if (true && (y7 == false)) = true then some (if (!y1.1.name) = true then y8 else false) else some default) >>= fun (y9 : Bool) => (some (if y7 = true then true else y9)) >>= fun (y10 : Bool) => if y10 = true then (some false) else ((some (if (decide ((p0.kids.length : Int) < y1.1.least)) = true then true else (decide (y1.1.most < (p0.kids.length : Int))))) >>= fun (y11 : Bool) => (some (if y11 = true then true else (!decide ((p0.sub.length : Int) = y1.1.subs)))) >>= fun (y12 : Bool) => if y12 = true then (some false) else ((iAreFormed p0.kids) >>= fun (y13 : Bool) => (if (true && (y13 == true)) = true then gZ5 p0.sub else some default) >>= fun (y14 : Bool) => (some (if y13 = true then (!y14) else false)) >>= fun (y15 : Bool) => some y15))
  partial_fixpoint
def iAreFormed_1 (p0 : GExpr) : Option Bool :=
  (iIsFormed p0) >>= fun (y1 : Bool) => some (!y1)
  partial_fixpoint
def gZ9_L0 (p0 : (List GExpr)) (x8 : Int) : Option Int :=
  if (decide (x8 < (p0.length : Int))) = true then ((idx p0 x8) >>= fun (y1 : GExpr) => (iAreFormed_1 y1) >>= fun (y2 : Bool) => if y2 = true then (some x8) else (gZ9_L0 p0 (IntKind.wrap .i64 (x8 + 1)))) else (some (-1))
  partial_fixpoint
def gZ9 (p0 : (List GExpr)) : Option Int :=
  gZ9_L0 p0 0
  partial_fixpoint
def gZ6 (p0 : (List GExpr)) : Option Bool :=
  (gZ9 p0) >>= fun (y1 : Int) => some (decide (0 ≤ y1))
  partial_fixpoint
def iAreFormed (p0 : (List GExpr)) : Option Bool :=
  (gZ6 p0) >>= fun (y1 : Bool) => some (!y1)
  partial_fixpoint
end
def iIsSmall (p0 : Int) (p1 : Int) : Option Bool :=
  (some (if (decide (p0 ≤ 24)) = true then (decide (p1 ≤ 200)) else false)) >>= fun (y1 : Bool) => some y1
mutual
def iQueryDepth (p0 : GQuery) : Option Int :=
  (iQuery_exprs p0) >>= fun (y1 : (List GExpr)) => (iDeepestOf y1) >>= fun (y2 : Int) => some y2
  partial_fixpoint
def iDepthOf_L1 (p0 : GExpr) (x3_3 : Int) (x23 : Int) : Option Int :=
  if (decide (x23 < (p0.sub.length : Int))) = true then ((idx p0.sub x23) >>= fun (y4 : GQuery) => (iQueryDepth y4) >>= fun (y5 : Int) => iDepthOf_L1 p0 (if y5 > x3_3 then y5 else x3_3) (IntKind.wrap .i64 (x23 + 1))) else (some (IntKind.wrap .i64 (1 + x3_3)))
  partial_fixpoint
def iDepthOf_L0 (p0 : GExpr) (x3 : Int) (x11 : Int) : Option Int :=
  if (decide (x11 < (p0.kids.length : Int))) = true then ((idx p0.kids x11) >>= fun (y1 : GExpr) => (iDepthOf y1) >>= fun (y2 : Int) => iDepthOf_L0 p0 (if y2 > x3 then y2 else x3) (IntKind.wrap .i64 (x11 + 1))) else (iDepthOf_L1 p0 x3 0)
  partial_fixpoint
def iDepthOf (p0 : GExpr) : Option Int :=
  iDepthOf_L0 p0 0 0
  partial_fixpoint
def iDeepestOf_L0 (p0 : (List GExpr)) (x3 : Int) (x8 : Int) : Option Int :=
  if (decide (x8 < (p0.length : Int))) = true then ((idx p0 x8) >>= fun (y1 : GExpr) => (iDepthOf y1) >>= fun (y2 : Int) => iDeepestOf_L0 p0 (if y2 > x3 then y2 else x3) (IntKind.wrap .i64 (x8 + 1))) else (some x3)
  partial_fixpoint
def iDeepestOf (p0 : (List GExpr)) : Option Int :=
  iDeepestOf_L0 p0 0 0
  partial_fixpoint
end
def iStmt_exprs_L0 (p0 : GStmt) (x3 : (List GExpr)) (x12 : Int) : Option (List GExpr) :=
  if (decide (x12 < (p0.rows.length : Int))) = true then ((idx p0.rows x12) >>= fun (y2 : (List GExpr)) => (appG 136 x3 y2) >>= fun (y3 : List GExpr) => iStmt_exprs_L0 p0 y3 (IntKind.wrap .i64 (x12 + 1))) else ((appG 136 x3 p0.sets) >>= fun (y4 : List GExpr) => (appG 136 y4 p0.where_) >>= fun (y5 : List GExpr) => some y5)
  partial_fixpoint
def iStmt_exprs (p0 : GStmt) : Option (List GExpr) :=
  (iQuery_exprs p0.query) >>= fun (y1 : (List GExpr)) => iStmt_exprs_L0 p0 y1 0
def iStmtDepth (p0 : GStmt) : Option Int :=
  (iStmt_exprs p0) >>= fun (y1 : (List GExpr)) => (iDeepestOf y1) >>= fun (y2 : Int) => some y2
mutual
def iQuerySize (p0 : GQuery) : Option Int :=
  (iQuery_exprs p0) >>= fun (y1 : (List GExpr)) => (iSizeOfAll y1) >>= fun (y2 : Int) => some y2
  partial_fixpoint
def iSizeOf_L0 (p0 : GExpr) (x3 : Int) (x13 : Int) : Option Int :=
  if (decide (x13 < (p0.sub.length : Int))) = true then ((idx p0.sub x13) >>= fun (y2 : GQuery) => (iQuerySize y2) >>= fun (y3 : Int) => iSizeOf_L0 p0 (IntKind.wrap .i64 (x3 + y3)) (IntKind.wrap .i64 (x13 + 1))) else (some x3)
  partial_fixpoint
def iSizeOf (p0 : GExpr) : Option Int :=
  (iSizeOfAll p0.kids) >>= fun (y1 : Int) => iSizeOf_L0 p0 (IntKind.wrap .i64 (1 + y1)) 0
  partial_fixpoint
def iSizeOfAll_L0 (p0 : (List GExpr)) (x3 : Int) (x8 : Int) : Option Int :=
  if (decide (x8 < (p0.length : Int))) = true then ((idx p0 x8) >>= fun (y1 : GExpr) => (iSizeOf y1) >>= fun (y2 : Int) => iSizeOfAll_L0 p0 (IntKind.wrap .i64 (x3 + y2)) (IntKind.wrap .i64 (x8 + 1))) else (some x3)
  partial_fixpoint
def iSizeOfAll (p0 : (List GExpr)) : Option Int :=
  iSizeOfAll_L0 p0 0 0
  partial_fixpoint
end
def iStmtSize (p0 : GStmt) : Option Int :=
  (iStmt_exprs p0) >>= fun (y1 : (List GExpr)) => (iSizeOfAll y1) >>= fun (y2 : Int) => some y2
def iStmtOk (p0 : GStmt) : Option Bool :=
  (iStmtDepth p0) >>= fun (y1 : Int) => (iStmtSize p0) >>= fun (y2 : Int) => (iIsSmall y1 y2) >>= fun (y3 : Bool) => if (!y3) = true then (some false) else (if (decide (p0.kind = 1)) = true then ((some (if (decide (p0.table = [])) = true then (decide ((p0.rows.length : Int) = 0)) else false)) >>= fun (y4 : Bool) => (some (if y4 = true then (decide ((p0.cols.length : Int) = 0)) else false)) >>= fun (y5 : Bool) => (some (if y5 = true then (decide ((p0.sets.length : Int) = 0)) else false)) >>= fun (y6 : Bool) => (some (if y6 = true then (decide ((p0.where_.length : Int) = 0)) else false)) >>= fun (y7 : Bool) => (if (true && (y7 == true)) = true then iIsFormedQuery p0.query else some default) >>= fun (y8 : Bool) => (some (if y7 = true then y8 else false)) >>= fun (y9 : Bool) => some y9) else ((iSameQuery p0.query (GQuery.mk false ([] : List GItem) ([] : List GSource) ([] : List GExpr) ([] : List GSortKey) 0)) >>= fun (y10 : Bool) => (if (true && ((!y10) == false)) = true then iNameOk p0.table else some default) >>= fun (y11 : Bool) => (some (if (!y10) = true then true else (!y11))) >>= fun (y12 : Bool) => (if (true && (y12 == false)) = true then iStmt_exprs p0 else some (default : (List GExpr))) >>= fun (y13 : (List GExpr)) => (if (true && (y12 == false)) = true then iAreFormed y13 else some default) >>= fun (y14 : Bool) => (some (if y12 = true then true else (!y14))) >>= fun (y15 : Bool) => if y15 = true then (some false) else (if (decide (p0.kind = 2)) = true then ((some (if (decide ((p0.cols.length : Int) = 0)) = true then (decide ((p0.sets.length : Int) = 0)) else false)) >>= fun (y16 : Bool) => (some (if y16 = true then (decide ((p0.where_.length : Int) = 0)) else false)) >>= fun (y17 : Bool) => (some (if y17 = true then (decide (1 ≤ (p0.rows.length : Int))) else false)) >>= fun (y18 : Bool) => (some (if y18 = true then (decide ((p0.rows.length : Int) ≤ 5)) else false)) >>= fun (y19 : Bool) => (if (true && (y19 == true)) = true then gZ7 p0.rows else some default) >>= fun (y20 : Bool) => (some (if y19 = true then (!y20) else false)) >>= fun (y21 : Bool) => some y21) else (if (decide (p0.kind = 3)) = true then ((some (if (decide ((p0.rows.length : Int) = 0)) = true then (decide (1 ≤ (p0.cols.length : Int))) else false)) >>= fun (y22 : Bool) => (some (if y22 = true then (decide ((p0.cols.length : Int) ≤ 12)) else false)) >>= fun (y23 : Bool) => (some (if y23 = true then (decide ((p0.sets.length : Int) = (p0.cols.length : Int))) else false)) >>= fun (y24 : Bool) => (some (if y24 = true then (decide ((p0.where_.length : Int) ≤ 1)) else false)) >>= fun (y25 : Bool) => (if (true && (y25 == true)) = true then gZ11 p0.cols else some default) >>= fun (y26 : Bool) => (some (if y25 = true then (!y26) else false)) >>= fun (y27 : Bool) => some y27) else (if (decide (p0.kind = 4)) = true then ((some (if (decide ((p0.rows.length : Int) = 0)) = true then (decide ((p0.cols.length : Int) = 0)) else false)) >>= fun (y28 : Bool) => (some (if y28 = true then (decide ((p0.sets.length : Int) = 0)) else false)) >>= fun (y29 : Bool) => (some (if y29 = true then (decide ((p0.where_.length : Int) ≤ 1)) else false)) >>= fun (y30 : Bool) => some y30) else (some false))))))
def sL1Max (p0 : Int) (p1 : Int) : Option Int :=
  if (decide (p1 < p0)) = true then (some p0) else (some p1)
def sL7Exprs_L3 (p0 : GQuery) (x3_9 : (List GExpr)) (x6 : Int) : Option (List GExpr) :=
  if (decide (x6 < (p0.order.length : Int))) = true then ((idx p0.order x6) >>= fun (y10 : GSortKey) => (appG 136 x3_9 ([y10.expr] : List GExpr)) >>= fun (y11 : List GExpr) => sL7Exprs_L3 p0 y11 (IntKind.wrap .i64 (x6 + 1))) else (some x3_9)
  partial_fixpoint
def sL7Exprs_L2 (p0 : GQuery) (x3_5 : (List GExpr)) (x5 : Int) : Option (List GExpr) :=
  if (decide (x5 < (p0.from_.length : Int))) = true then ((idx p0.from_ x5) >>= fun (y6 : GSource) => (appG 136 x3_5 y6.on_) >>= fun (y7 : List GExpr) => sL7Exprs_L2 p0 y7 (IntKind.wrap .i64 (x5 + 1))) else ((appG 136 x3_5 p0.where_) >>= fun (y8 : List GExpr) => sL7Exprs_L3 p0 y8 0)
  partial_fixpoint
mutual
def sL7Exprs_J1 (x4 : Int) (p0 : GQuery) (x3_4 : (List GExpr)) : Option (List GExpr) :=
  sL7Exprs_L0 p0 x3_4 (IntKind.wrap .i64 (x4 + 1))
  partial_fixpoint
def sL7Exprs_L0 (p0 : GQuery) (x3 : (List GExpr)) (x4 : Int) : Option (List GExpr) :=
  if (decide (x4 < (p0.items.length : Int))) = true then ((idx p0.items x4) >>= fun (y1 : GItem) => if (!y1.star) = true then ((idx p0.items x4) >>= fun (y2 : GItem) => (appG 136 x3 ([y2.expr] : List GExpr)) >>= fun (y3 : List GExpr) => sL7Exprs_J1 x4 p0 y3) else (sL7Exprs_J1 x4 p0 x3)) else (sL7Exprs_L2 p0 x3 0)
  partial_fixpoint
end
def sL7Exprs (p0 : GQuery) : Option (List GExpr) :=
  sL7Exprs_L0 p0 ([] : List GExpr) 0
mutual
def sQueryDepth_L0 (y1 : (List GExpr)) (x3 : Int) (x5 : Int) : Option Int :=
  if (decide (x5 < (y1.length : Int))) = true then ((idx y1 x5) >>= fun (y2 : GExpr) => (sDepthOf y2) >>= fun (y3 : Int) => (sL1Max x3 y3) >>= fun (y4 : Int) => sQueryDepth_L0 y1 y4 (IntKind.wrap .i64 (x5 + 1))) else (some x3)
  partial_fixpoint
def sQueryDepth (p0 : GQuery) : Option Int :=
  (sL7Exprs p0) >>= fun (y1 : (List GExpr)) => sQueryDepth_L0 y1 0 0
  partial_fixpoint
def sDepthOf_L1 (p0 : GExpr) (x3_4 : Int) (x5 : Int) : Option Int :=
  if (decide (x5 < (p0.sub.length : Int))) = true then ((idx p0.sub x5) >>= fun (y5 : GQuery) => (sQueryDepth y5) >>= fun (y6 : Int) => (sL1Max x3_4 y6) >>= fun (y7 : Int) => sDepthOf_L1 p0 y7 (IntKind.wrap .i64 (x5 + 1))) else (some (IntKind.wrap .i64 (x3_4 + 1)))
  partial_fixpoint
def sDepthOf_L0 (p0 : GExpr) (x3 : Int) (x4 : Int) : Option Int :=
  if (decide (x4 < (p0.kids.length : Int))) = true then ((idx p0.kids x4) >>= fun (y1 : GExpr) => (sDepthOf y1) >>= fun (y2 : Int) => (sL1Max x3 y2) >>= fun (y3 : Int) => sDepthOf_L0 p0 y3 (IntKind.wrap .i64 (x4 + 1))) else (sDepthOf_L1 p0 x3 0)
  partial_fixpoint
def sDepthOf (p0 : GExpr) : Option Int :=
  sDepthOf_L0 p0 0 0
  partial_fixpoint
end
mutual
def sL7Left_L2 (x6 : Int) (y7 : (List GExpr)) (p0 : GExpr) (x1_8 : Int) (x8 : Int) : Option Int :=
  (some (if (decide (x8 < (y7.length : Int))) = true then (decide (0 ≤ x1_8)) else false)) >>= fun (y9 : Bool) => if y9 = true then ((idx y7 x8) >>= fun (y10 : GExpr) => (sL7Left y10 x1_8) >>= fun (y11 : Int) => sL7Left_L2 x6 y7 p0 y11 (IntKind.wrap .i64 (x8 + 1))) else (sL7Left_L1 p0 x1_8 (IntKind.wrap .i64 (x6 + 1)))
  partial_fixpoint
def sL7Left_L1 (p0 : GExpr) (x1_4 : Int) (x6 : Int) : Option Int :=
  (some (if (decide (x6 < (p0.sub.length : Int))) = true then (decide (0 ≤ x1_4)) else false)) >>= fun (y5 : Bool) => if y5 = true then ((idx p0.sub x6) >>= fun (y6 : GQuery) => (sL7Exprs y6) >>= fun (y7 : (List GExpr)) => sL7Left_L2 x6 y7 p0 x1_4 0) else (some x1_4)
  partial_fixpoint
def sL7Left_L0 (p0 : GExpr) (x1 : Int) (x5 : Int) : Option Int :=
  (some (if (decide (x5 < (p0.kids.length : Int))) = true then (decide (0 ≤ x1)) else false)) >>= fun (y1 : Bool) => if y1 = true then ((idx p0.kids x5) >>= fun (y2 : GExpr) => (sL7Left y2 x1) >>= fun (y3 : Int) => sL7Left_L0 p0 y3 (IntKind.wrap .i64 (x5 + 1))) else (sL7Left_L1 p0 x1 0)
  partial_fixpoint
def sL7Left (p0 : GExpr) (p1 : Int) : Option Int :=
  sL7Left_L0 p0 (IntKind.wrap .i64 (p1 - 1)) 0
  partial_fixpoint
end
def sL1In (p0 : Int) (p1 : Int) (p2 : Int) : Option Bool :=
  (some (if (decide (p1 ≤ p0)) = true then (decide (p0 ≤ p2)) else false)) >>= fun (y1 : Bool) => some y1
def sNameOk (p0 : (List UInt8)) : Option Bool :=
  (sL1In (p0.length : Int) 1 20) >>= fun (y1 : Bool) => some y1
def sL7Maybe (p0 : (List UInt8)) : Option Bool :=
  (if (true && ((decide (p0 = [])) == false)) = true then sNameOk p0 else some default) >>= fun (y1 : Bool) => (some (if (decide (p0 = [])) = true then true else y1)) >>= fun (y2 : Bool) => some y2
mutual
def sSameQuery_L2 (p0 : GQuery) (p1 : GQuery) (x11 : Int) : Option Bool :=
  if (decide (x11 < (p0.order.length : Int))) = true then ((idx p0.order x11) >>= fun (y18 : GSortKey) => (idx p1.order x11) >>= fun (y19 : GSortKey) => (if (true && ((!(y18.desc == y19.desc)) == false)) = true then idx p0.order x11 else some default) >>= fun (y20 : GSortKey) => (if (true && ((!(y18.desc == y19.desc)) == false)) = true then idx p1.order x11 else some default) >>= fun (y21 : GSortKey) => (if (true && ((!(y18.desc == y19.desc)) == false)) = true then sSameExpr y20.expr y21.expr else some default) >>= fun (y22 : Bool) => (some (if (!(y18.desc == y19.desc)) = true then true else (!y22))) >>= fun (y23 : Bool) => if y23 = true then (some false) else (sSameQuery_L2 p0 p1 (IntKind.wrap .i64 (x11 + 1)))) else (some true)
  partial_fixpoint
def sSameQuery_L1 (p0 : GQuery) (p1 : GQuery) (x8 : Int) : Option Bool :=
  if (decide (x8 < (p0.from_.length : Int))) = true then ((idx p0.from_ x8) >>= fun (y13 : GSource) => (idx p1.from_ x8) >>= fun (y14 : GSource) => (some (if (!decide (y13.table = y14.table)) = true then true else (!decide (y13.as_ = y14.as_)))) >>= fun (y15 : Bool) => (if (true && (y15 == false)) = true then sL7Same y13.on_ y14.on_ else some default) >>= fun (y16 : Bool) => (some (if y15 = true then true else (!y16))) >>= fun (y17 : Bool) => if y17 = true then (some false) else (sSameQuery_L1 p0 p1 (IntKind.wrap .i64 (x8 + 1)))) else (sSameQuery_L2 p0 p1 0)
  partial_fixpoint
def sSameQuery_L0 (p0 : GQuery) (p1 : GQuery) (x5 : Int) : Option Bool :=
  if (decide (x5 < (p0.items.length : Int))) = true then ((idx p0.items x5) >>= fun (y7 : GItem) => (idx p1.items x5) >>= fun (y8 : GItem) => (some (if (!(y7.star == y8.star)) = true then true else (!decide (y7.qual = y8.qual)))) >>= fun (y9 : Bool) => (some (if y9 = true then true else (!decide (y7.as_ = y8.as_)))) >>= fun (y10 : Bool) => (if (true && (y10 == false)) = true then sSameExpr y7.expr y8.expr else some default) >>= fun (y11 : Bool) => (some (if y10 = true then true else (!y11))) >>= fun (y12 : Bool) => if y12 = true then (some false) else (sSameQuery_L0 p0 p1 (IntKind.wrap .i64 (x5 + 1)))) else (sSameQuery_L1 p0 p1 0)
  partial_fixpoint
def sSameQuery (p0 : GQuery) (p1 : GQuery) : Option Bool :=
  (some (if (!(p0.distinct == p1.distinct)) = true then true else (!decide (p0.limit = p1.limit)))) >>= fun (y1 : Bool) => (some (if y1 = true then true else (!decide ((p0.items.length : Int) = (p1.items.length : Int))))) >>= fun (y2 : Bool) => (some (if y2 = true then true else (!decide ((p0.from_.length : Int) = (p1.from_.length : Int))))) >>= fun (y3 : Bool) => (some (if y3 = true then true else (!decide ((p0.order.length : Int) = (p1.order.length : Int))))) >>= fun (y4 : Bool) => (if (true && (y4 == false)) = true then sL7Same p0.where_ p1.where_ else some default) >>= fun (y5 : Bool) => (some (if y4 = true then true else (!y5))) >>= fun (y6 : Bool) => if y6 = true then (some false) else (sSameQuery_L0 p0 p1 0)
  partial_fixpoint
def sSameExpr_L0 (p0 : GExpr) (p1 : GExpr) (x5 : Int) : Option Bool :=
  if (decide (x5 < (p0.sub.length : Int))) = true then ((idx p0.sub x5) >>= fun (y9 : GQuery) => (idx p1.sub x5) >>= fun (y10 : GQuery) => (sSameQuery y9 y10) >>= fun (y11 : Bool) => if (!y11) = true then (some false) else (sSameExpr_L0 p0 p1 (IntKind.wrap .i64 (x5 + 1)))) else (some true)
  partial_fixpoint
def sL7Same_L0 (p0 : (List GExpr)) (p1 : (List GExpr)) (x5 : Int) : Option Bool :=
  if (decide (x5 < (p0.length : Int))) = true then ((idx p0 x5) >>= fun (y1 : GExpr) => (idx p1 x5) >>= fun (y2 : GExpr) => (sSameExpr y1 y2) >>= fun (y3 : Bool) => if (!y3) = true then (some false) else (sL7Same_L0 p0 p1 (IntKind.wrap .i64 (x5 + 1)))) else (some true)
  partial_fixpoint
def sL7Same (p0 : (List GExpr)) (p1 : (List GExpr)) : Option Bool :=
  if (!decide ((p0.length : Int) = (p1.length : Int))) = true then (some false) else (sL7Same_L0 p0 p1 0)
  partial_fixpoint
def sSameExpr (p0 : GExpr) (p1 : GExpr) : Option Bool :=
  (some (if (!decide (p0.kind = p1.kind)) = true then true else (!decide (p0.op = p1.op)))) >>= fun (y1 : Bool) => (some (if y1 = true then true else (!(p0.not_ == p1.not_)))) >>= fun (y2 : Bool) => (some (if y2 = true then true else (!((decide (p0.value.kind = p1.value.kind)) && ((decide (p0.value.num = p1.value.num)) && ((decide (p0.value.text = p1.value.text)) && true)))))) >>= fun (y3 : Bool) => (some (if y3 = true then true else (!decide (p0.qual = p1.qual)))) >>= fun (y4 : Bool) => (some (if y4 = true then true else (!decide (p0.name = p1.name)))) >>= fun (y5 : Bool) => (some (if y5 = true then true else (!decide ((p0.sub.length : Int) = (p1.sub.length : Int))))) >>= fun (y6 : Bool) => (if (true && (y6 == false)) = true then sL7Same p0.kids p1.kids else some default) >>= fun (y7 : Bool) => (some (if y6 = true then true else (!y7))) >>= fun (y8 : Bool) => if y8 = true then (some false) else (sSameExpr_L0 p0 p1 0)
  partial_fixpoint
end
def sValueOk (p0 : GValue) : Option Bool :=
  if (decide (p0.kind = 0)) = true then ((some (if (decide (p0.num = 0)) = true then (decide (p0.text = [])) else false)) >>= fun (y1 : Bool) => some y1) else (if (decide (p0.kind = 1)) = true then (some (decide (p0.text = []))) else (if (decide (p0.kind = 2)) = true then ((some (if (decide (p0.num = 0)) = true then (decide ((p0.text.length : Int) ≤ 200)) else false)) >>= fun (y2 : Bool) => some y2) else (if (decide (p0.kind = 3)) = true then ((sL1In p0.num 0 1) >>= fun (y3 : Bool) => (some (if y3 = true then (decide (p0.text = [])) else false)) >>= fun (y4 : Bool) => some y4) else (some false))))
def sL7Lit (p0 : GValue) : Option Bool :=
  (sValueOk p0) >>= fun (y1 : Bool) => (if (true && (y1 == true)) = true then some (if (!decide (p0.kind = 1)) = true then true else (decide (0 ≤ p0.num))) else some default) >>= fun (y2 : Bool) => (some (if y1 = true then y2 else false)) >>= fun (y3 : Bool) => (some (if y3 = true then (decide ((p0.text.length : Int) ≤ 40)) else false)) >>= fun (y4 : Bool) => some y4
def sL7Shape (p0 : GExpr) : Option Bool :=
  (if (true && ((!decide (p0.kind = 2)) == true)) = true then some (if (!decide (p0.qual = [])) = true then true else (!decide (p0.name = []))) else some default) >>= fun (y1 : Bool) => (some (if (!decide (p0.kind = 2)) = true then y1 else false)) >>= fun (y2 : Bool) => (if (true && (y2 == false)) = true then some (if (!decide (p0.kind = 1)) = true then (!((decide (p0.value.kind = 0)) && ((decide (p0.value.num = 0)) && ((decide (p0.value.text = [])) && true)))) else false) else some default) >>= fun (y3 : Bool) => (some (if y2 = true then true else y3)) >>= fun (y4 : Bool) => if y4 = true then (some false) else ((some (if (!decide (p0.kind = 3)) = true then (!decide (p0.kind = 4)) else false)) >>= fun (y5 : Bool) => (some (if y5 = true then (!decide (p0.op = 0)) else false)) >>= fun (y6 : Bool) => (if ((true && (y6 == false)) && (p0.not_ == true)) = true then sL1In p0.kind 5 8 else some default) >>= fun (y7 : Bool) => (if (true && (y6 == false)) = true then some (if p0.not_ = true then (!y7) else false) else some default) >>= fun (y8 : Bool) => (some (if y6 = true then true else y8)) >>= fun (y9 : Bool) => if y9 = true then (some false) else (if (decide (p0.kind = 1)) = true then ((sL7Lit p0.value) >>= fun (y10 : Bool) => (some (if y10 = true then (decide ((IntKind.wrap .i64 ((p0.kids.length : Int) + (p0.sub.length : Int))) = 0)) else false)) >>= fun (y11 : Bool) => some y11) else (if (decide (p0.kind = 2)) = true then ((sNameOk p0.name) >>= fun (y12 : Bool) => (if (true && (y12 == true)) = true then sL7Maybe p0.qual else some default) >>= fun (y13 : Bool) => (some (if y12 = true then y13 else false)) >>= fun (y14 : Bool) => (some (if y14 = true then (decide ((IntKind.wrap .i64 ((p0.kids.length : Int) + (p0.sub.length : Int))) = 0)) else false)) >>= fun (y15 : Bool) => some y15) else (if (decide (p0.kind = 3)) = true then ((some (if (decide (p0.op = 15)) = true then true else (decide (p0.op = 16)))) >>= fun (y16 : Bool) => (some (if y16 = true then (decide ((p0.kids.length : Int) = 1)) else false)) >>= fun (y17 : Bool) => (some (if y17 = true then (decide ((p0.sub.length : Int) = 0)) else false)) >>= fun (y18 : Bool) => some y18) else (if (decide (p0.kind = 4)) = true then ((sL1In p0.op 1 14) >>= fun (y19 : Bool) => (some (if y19 = true then (decide ((p0.kids.length : Int) = 2)) else false)) >>= fun (y20 : Bool) => (some (if y20 = true then (decide ((p0.sub.length : Int) = 0)) else false)) >>= fun (y21 : Bool) => some y21) else (if (decide (p0.kind = 5)) = true then ((some (if (decide ((p0.kids.length : Int) = 1)) = true then (decide ((p0.sub.length : Int) = 0)) else false)) >>= fun (y22 : Bool) => some y22) else (if (decide (p0.kind = 6)) = true then ((some (if (decide ((p0.kids.length : Int) = 3)) = true then (decide ((p0.sub.length : Int) = 0)) else false)) >>= fun (y23 : Bool) => some y23) else (if (decide (p0.kind = 7)) = true then ((sL1In (p0.kids.length : Int) 2 9) >>= fun (y24 : Bool) => (some (if y24 = true then (decide ((p0.sub.length : Int) = 0)) else false)) >>= fun (y25 : Bool) => some y25) else (if (decide (p0.kind = 8)) = true then ((some (if (decide ((p0.kids.length : Int) = 1)) = true then (decide ((p0.sub.length : Int) = 1)) else false)) >>= fun (y26 : Bool) => some y26) else (if (decide (p0.kind = 9)) = true then ((some (if (decide ((p0.kids.length : Int) = 0)) = true then (decide ((p0.sub.length : Int) = 1)) else false)) >>= fun (y27 : Bool) => some y27) else (some false)))))))))))
mutual
def sL7RightQuery_L2 (y24 : (List GExpr)) (x8 : Int) : Option Bool :=
  if (decide (x8 < (y24.length : Int))) = true then ((idx y24 x8) >>= fun (y25 : GExpr) => (sL7Right y25) >>= fun (y26 : Bool) => if (!y26) = true then (some false) else (sL7RightQuery_L2 y24 (IntKind.wrap .i64 (x8 + 1)))) else (some true)
  partial_fixpoint
def sL7RightQuery_L1 (p0 : GQuery) (x5 : Int) : Option Bool :=
  if (decide (x5 < (p0.from_.length : Int))) = true then ((idx p0.from_ x5) >>= fun (y17 : GSource) => (sNameOk y17.table) >>= fun (y18 : Bool) => (if (true && ((!y18) == false)) = true then sL7Maybe y17.as_ else some default) >>= fun (y19 : Bool) => (some (if (!y18) = true then true else (!y19))) >>= fun (y20 : Bool) => (some (if y20 = true then true else (decide (1 < (y17.on_.length : Int))))) >>= fun (y21 : Bool) => (if (true && (y21 == false)) = true then some (if (decide (x5 = 0)) = true then (decide (0 < (y17.on_.length : Int))) else false) else some default) >>= fun (y22 : Bool) => (some (if y21 = true then true else y22)) >>= fun (y23 : Bool) => if y23 = true then (some false) else (sL7RightQuery_L1 p0 (IntKind.wrap .i64 (x5 + 1)))) else ((sL7Exprs p0) >>= fun (y24 : (List GExpr)) => sL7RightQuery_L2 y24 0)
  partial_fixpoint
def sL7RightQuery_L0 (p0 : GQuery) (x3 : Int) : Option Bool :=
  if (decide (x3 < (p0.items.length : Int))) = true then ((idx p0.items x3) >>= fun (y7 : GItem) => (if (true && (y7.star == true)) = true then sL7Maybe y7.qual else some default) >>= fun (y8 : Bool) => (if (true && (y7.star == true)) = true then some (if (!y8) = true then true else (!decide (y7.as_ = []))) else some default) >>= fun (y9 : Bool) => (if ((true && (y7.star == true)) && (y9 == false)) = true then sSameExpr y7.expr (GExpr.mk 0 0 false (GValue.mk 0 0 []) [] [] ([] : List GExpr) ([] : List GQuery)) else some default) >>= fun (y10 : Bool) => (if (true && (y7.star == true)) = true then some (if y9 = true then true else (!y10)) else some default) >>= fun (y11 : Bool) => (some (if y7.star = true then y11 else false)) >>= fun (y12 : Bool) => (if (((true && (y12 == false)) && ((!y7.star) == true)) && ((!decide (y7.qual = [])) == false)) = true then sL7Maybe y7.as_ else some default) >>= fun (y13 : Bool) => (if ((true && (y12 == false)) && ((!y7.star) == true)) = true then some (if (!decide (y7.qual = [])) = true then true else (!y13)) else some default) >>= fun (y14 : Bool) => (if (true && (y12 == false)) = true then some (if (!y7.star) = true then y14 else false) else some default) >>= fun (y15 : Bool) => (some (if y12 = true then true else y15)) >>= fun (y16 : Bool) => if y16 = true then (some false) else (sL7RightQuery_L0 p0 (IntKind.wrap .i64 (x3 + 1)))) else (sL7RightQuery_L1 p0 0)
  partial_fixpoint
def sL7RightQuery (p0 : GQuery) : Option Bool :=
  (sL1In (p0.items.length : Int) 1 12) >>= fun (y1 : Bool) => (if (true && ((!y1) == false)) = true then sL1In (p0.from_.length : Int) 1 3 else some default) >>= fun (y2 : Bool) => (some (if (!y1) = true then true else (!y2))) >>= fun (y3 : Bool) => (some (if y3 = true then true else (decide (1 < (p0.where_.length : Int))))) >>= fun (y4 : Bool) => (some (if y4 = true then true else (decide (12 < (p0.order.length : Int))))) >>= fun (y5 : Bool) => (some (if y5 = true then true else (decide (p0.limit < (-1))))) >>= fun (y6 : Bool) => if y6 = true then (some false) else (sL7RightQuery_L0 p0 0)
  partial_fixpoint
def sL7Right_L0 (p0 : GExpr) (x3 : Int) : Option Bool :=
  if (decide (x3 < (p0.kids.length : Int))) = true then ((idx p0.kids x3) >>= fun (y2 : GExpr) => (sL7Right y2) >>= fun (y3 : Bool) => if (!y3) = true then (some false) else (sL7Right_L0 p0 (IntKind.wrap .i64 (x3 + 1)))) else ((if (true && ((decide ((p0.sub.length : Int) = 0)) == false)) = true then idx p0.sub 0 else some default) >>= fun (y4 : GQuery) => (if (true && ((decide ((p0.sub.length : Int) = 0)) == false)) = true then sL7RightQuery y4 else some default) >>= fun (y5 : Bool) => (some (if (decide ((p0.sub.length : Int) = 0)) = true then true else y5)) >>= fun (y6 : Bool) => some y6)
  partial_fixpoint
def sL7Right (p0 : GExpr) : Option Bool :=
  (sL7Shape p0) >>= fun (y1 : Bool) => if (!y1) = true then (some false) else (sL7Right_L0 p0 0)
  partial_fixpoint
end
def sExprOk (p0 : GExpr) : Option Bool :=
  (sL7Left p0 200) >>= fun (y1 : Int) => (if (true && ((decide (0 ≤ y1)) == true)) = true then sL7Right p0 else some default) >>= fun (y2 : Bool) => (some (if (decide (0 ≤ y1)) = true then y2 else false)) >>= fun (y3 : Bool) => (if (true && (y3 == true)) = true then sDepthOf p0 else some default) >>= fun (y4 : Int) => (some (if y3 = true then (decide (y4 ≤ 24)) else false)) >>= fun (y5 : Bool) => some y5
def sL8All_L0 (p0 : (List GExpr)) (x3 : Int) : Option Bool :=
  if (decide (x3 < (p0.length : Int))) = true then ((idx p0 x3) >>= fun (y1 : GExpr) => (sExprOk y1) >>= fun (y2 : Bool) => if (!y2) = true then (some false) else (sL8All_L0 p0 (IntKind.wrap .i64 (x3 + 1)))) else (some true)
  partial_fixpoint
def sL8All (p0 : (List GExpr)) : Option Bool :=
  sL8All_L0 p0 0
def sL8Shape_L0 (y1 : Bool) (y2 : Bool) (p0 : GStmt) (x9 : Int) : Option Bool :=
  if (decide (x9 < (p0.rows.length : Int))) = true then ((idx p0.rows x9) >>= fun (y11 : (List GExpr)) => (sL1In (y11.length : Int) 1 12) >>= fun (y12 : Bool) => (if (true && ((!y12) == false)) = true then idx p0.rows x9 else some default) >>= fun (y13 : (List GExpr)) => (if (true && ((!y12) == false)) = true then sL8All y13 else some default) >>= fun (y14 : Bool) => (some (if (!y12) = true then true else (!y14))) >>= fun (y15 : Bool) => if y15 = true then (some false) else (sL8Shape_L0 y1 y2 p0 (IntKind.wrap .i64 (x9 + 1)))) else ((some (if y1 = true then y2 else false)) >>= fun (y16 : Bool) => (if (true && (y16 == true)) = true then sL1In (p0.rows.length : Int) 1 5 else some default) >>= fun (y17 : Bool) => (some (if y16 = true then y17 else false)) >>= fun (y18 : Bool) => (some (if y18 = true then (decide ((IntKind.wrap .i64 ((IntKind.wrap .i64 ((p0.cols.length : Int) + (p0.sets.length : Int))) + (p0.where_.length : Int))) = 0)) else false)) >>= fun (y19 : Bool) => some y19)
  partial_fixpoint
def sL8Shape_L1 (y1 : Bool) (y2 : Bool) (p0 : GStmt) (x10 : Int) : Option Bool :=
  if (decide (x10 < (p0.cols.length : Int))) = true then ((idx p0.cols x10) >>= fun (y20 : (List UInt8)) => (sNameOk y20) >>= fun (y21 : Bool) => if (!y21) = true then (some false) else (sL8Shape_L1 y1 y2 p0 (IntKind.wrap .i64 (x10 + 1)))) else ((some (if y1 = true then y2 else false)) >>= fun (y22 : Bool) => (some (if y22 = true then (decide ((p0.rows.length : Int) = 0)) else false)) >>= fun (y23 : Bool) => (if (true && (y23 == true)) = true then sL1In (p0.cols.length : Int) 1 12 else some default) >>= fun (y24 : Bool) => (some (if y23 = true then y24 else false)) >>= fun (y25 : Bool) => (some (if y25 = true then (decide ((p0.sets.length : Int) = (p0.cols.length : Int))) else false)) >>= fun (y26 : Bool) => (some (if y26 = true then (decide ((p0.where_.length : Int) ≤ 1)) else false)) >>= fun (y27 : Bool) => (if (true && (y27 == true)) = true then sL8All p0.sets else some default) >>= fun (y28 : Bool) => (some (if y27 = true then y28 else false)) >>= fun (y29 : Bool) => (if (true && (y29 == true)) = true then sL8All p0.where_ else some default) >>= fun (y30 : Bool) => (some (if y29 = true then y30 else false)) >>= fun (y31 : Bool) => some y31)
  partial_fixpoint
mutual
def sSizeOf_L1 (p0 : GExpr) (x3_3 : Int) (x5 : Int) : Option Int :=
  if (decide (x5 < (p0.sub.length : Int))) = true then ((idx p0.sub x5) >>= fun (y4 : GQuery) => (sQuerySize y4) >>= fun (y5 : Int) => sSizeOf_L1 p0 (IntKind.wrap .i64 (x3_3 + y5)) (IntKind.wrap .i64 (x5 + 1))) else (some x3_3)
  partial_fixpoint
def sSizeOf_L0 (p0 : GExpr) (x3 : Int) (x4 : Int) : Option Int :=
  if (decide (x4 < (p0.kids.length : Int))) = true then ((idx p0.kids x4) >>= fun (y1 : GExpr) => (sSizeOf y1) >>= fun (y2 : Int) => sSizeOf_L0 p0 (IntKind.wrap .i64 (x3 + y2)) (IntKind.wrap .i64 (x4 + 1))) else (sSizeOf_L1 p0 x3 0)
  partial_fixpoint
def sSizeOf (p0 : GExpr) : Option Int :=
  sSizeOf_L0 p0 1 0
  partial_fixpoint
def sQuerySize_L0 (y1 : (List GExpr)) (x3 : Int) (x5 : Int) : Option Int :=
  if (decide (x5 < (y1.length : Int))) = true then ((idx y1 x5) >>= fun (y2 : GExpr) => (sSizeOf y2) >>= fun (y3 : Int) => sQuerySize_L0 y1 (IntKind.wrap .i64 (x3 + y3)) (IntKind.wrap .i64 (x5 + 1))) else (some x3)
  partial_fixpoint
def sQuerySize (p0 : GQuery) : Option Int :=
  (sL7Exprs p0) >>= fun (y1 : (List GExpr)) => sQuerySize_L0 y1 0 0
  partial_fixpoint
end
def sQueryOk (p0 : GQuery) : Option Bool :=
  (sL7RightQuery p0) >>= fun (y1 : Bool) => (if (true && (y1 == true)) = true then sQueryDepth p0 else some default) >>= fun (y2 : Int) => (some (if y1 = true then (decide (y2 ≤ 24)) else false)) >>= fun (y3 : Bool) => (if (true && (y3 == true)) = true then sQuerySize p0 else some default) >>= fun (y4 : Int) => (some (if y3 = true then (decide (y4 ≤ 200)) else false)) >>= fun (y5 : Bool) => some y5
def sL8Shape (p0 : GStmt) : Option Bool :=
  (sSameQuery p0.query (GQuery.mk false ([] : List GItem) ([] : List GSource) ([] : List GExpr) ([] : List GSortKey) 0)) >>= fun (y1 : Bool) => (sNameOk p0.table) >>= fun (y2 : Bool) => if (decide (p0.kind = 1)) = true then ((sQueryOk p0.query) >>= fun (y3 : Bool) => (some (if y3 = true then (decide (p0.table = [])) else false)) >>= fun (y4 : Bool) => (some (if y4 = true then (decide ((IntKind.wrap .i64 ((IntKind.wrap .i64 ((IntKind.wrap .i64 ((p0.rows.length : Int) + (p0.cols.length : Int))) + (p0.sets.length : Int))) + (p0.where_.length : Int))) = 0)) else false)) >>= fun (y5 : Bool) => some y5) else (if (decide (p0.kind = 2)) = true then (sL8Shape_L0 y1 y2 p0 0) else (if (decide (p0.kind = 3)) = true then (sL8Shape_L1 y1 y2 p0 0) else (if (decide (p0.kind = 4)) = true then ((some (if y1 = true then y2 else false)) >>= fun (y6 : Bool) => (some (if y6 = true then (decide ((IntKind.wrap .i64 ((IntKind.wrap .i64 ((p0.rows.length : Int) + (p0.cols.length : Int))) + (p0.sets.length : Int))) = 0)) else false)) >>= fun (y7 : Bool) => (some (if y7 = true then (decide ((p0.where_.length : Int) ≤ 1)) else false)) >>= fun (y8 : Bool) => (if (true && (y8 == true)) = true then sL8All p0.where_ else some default) >>= fun (y9 : Bool) => (some (if y8 = true then y9 else false)) >>= fun (y10 : Bool) => some y10) else (some false))))
def sL8Exprs_L0 (p0 : GStmt) (x3 : (List GExpr)) (x4 : Int) : Option (List GExpr) :=
  if (decide (x4 < (p0.rows.length : Int))) = true then ((idx p0.rows x4) >>= fun (y2 : (List GExpr)) => (appG 136 x3 y2) >>= fun (y3 : List GExpr) => sL8Exprs_L0 p0 y3 (IntKind.wrap .i64 (x4 + 1))) else ((appG 136 x3 p0.sets) >>= fun (y4 : List GExpr) => (appG 136 y4 p0.where_) >>= fun (y5 : List GExpr) => some y5)
  partial_fixpoint
def sL8Exprs (p0 : GStmt) : Option (List GExpr) :=
  (sL7Exprs p0.query) >>= fun (y1 : (List GExpr)) => sL8Exprs_L0 p0 y1 0
def sStmtDepth_L0 (y1 : (List GExpr)) (x3 : Int) (x5 : Int) : Option Int :=
  if (decide (x5 < (y1.length : Int))) = true then ((idx y1 x5) >>= fun (y2 : GExpr) => (sDepthOf y2) >>= fun (y3 : Int) => (sL1Max x3 y3) >>= fun (y4 : Int) => sStmtDepth_L0 y1 y4 (IntKind.wrap .i64 (x5 + 1))) else (some x3)
  partial_fixpoint
def sStmtDepth (p0 : GStmt) : Option Int :=
  (sL8Exprs p0) >>= fun (y1 : (List GExpr)) => sStmtDepth_L0 y1 0 0
def sStmtSize_L0 (y1 : (List GExpr)) (x3 : Int) (x5 : Int) : Option Int :=
  if (decide (x5 < (y1.length : Int))) = true then ((idx y1 x5) >>= fun (y2 : GExpr) => (sSizeOf y2) >>= fun (y3 : Int) => sStmtSize_L0 y1 (IntKind.wrap .i64 (x3 + y3)) (IntKind.wrap .i64 (x5 + 1))) else (some x3)
  partial_fixpoint
def sStmtSize (p0 : GStmt) : Option Int :=
  (sL8Exprs p0) >>= fun (y1 : (List GExpr)) => sStmtSize_L0 y1 0 0
def sStmtOk (p0 : GStmt) : Option Bool :=
  (sL8Shape p0) >>= fun (y1 : Bool) => (if (true && (y1 == true)) = true then sStmtDepth p0 else some default) >>= fun (y2 : Int) => (some (if y1 = true then (decide (y2 ≤ 24)) else false)) >>= fun (y3 : Bool) => (if (true && (y3 == true)) = true then sStmtSize p0 else some default) >>= fun (y4 : Int) => (some (if y3 = true then (decide (y4 ≤ 200)) else false)) >>= fun (y5 : Bool) => some y5
def wEqValue (p0 : GValue) (p1 : GValue) : Option Bool :=
  if (!decide (p0.kind = p1.kind)) = true then (some false) else (if (!decide (p0.num = p1.num)) = true then (some false) else (if (!decide (p0.text = p1.text)) = true then (some false) else (some true)))
mutual
def wEqSource (p0 : GSource) (p1 : GSource) : Option Bool :=
  if (!decide (p0.table = p1.table)) = true then (some false) else (if (!decide (p0.as_ = p1.as_)) = true then (some false) else ((wEqExprS p0.on_ p1.on_) >>= fun (y1 : Bool) => if (!y1) = true then (some false) else (some true)))
  partial_fixpoint
def wEqSourceS_L0 (p0 : (List GSource)) (p1 : (List GSource)) (x5 : Int) : Option Bool :=
  if (decide (x5 < (p0.length : Int))) = true then ((idx p0 x5) >>= fun (y1 : GSource) => (idx p1 x5) >>= fun (y2 : GSource) => (wEqSource y1 y2) >>= fun (y3 : Bool) => if (!y3) = true then (some false) else (wEqSourceS_L0 p0 p1 (IntKind.wrap .i64 (x5 + 1)))) else (some true)
  partial_fixpoint
def wEqSourceS (p0 : (List GSource)) (p1 : (List GSource)) : Option Bool :=
  if (!decide ((p0.length : Int) = (p1.length : Int))) = true then (some false) else (wEqSourceS_L0 p0 p1 0)
  partial_fixpoint
def wEqSortKey (p0 : GSortKey) (p1 : GSortKey) : Option Bool :=
  (wEqExpr p0.expr p1.expr) >>= fun (y1 : Bool) => if (!y1) = true then (some false) else (if (!(p0.desc == p1.desc)) = true then (some false) else (some true))
  partial_fixpoint
def wEqSortKeyS_L0 (p0 : (List GSortKey)) (p1 : (List GSortKey)) (x5 : Int) : Option Bool :=
  if (decide (x5 < (p0.length : Int))) = true then ((idx p0 x5) >>= fun (y1 : GSortKey) => (idx p1 x5) >>= fun (y2 : GSortKey) => (wEqSortKey y1 y2) >>= fun (y3 : Bool) => if (!y3) = true then (some false) else (wEqSortKeyS_L0 p0 p1 (IntKind.wrap .i64 (x5 + 1)))) else (some true)
  partial_fixpoint
def wEqSortKeyS (p0 : (List GSortKey)) (p1 : (List GSortKey)) : Option Bool :=
  if (!decide ((p0.length : Int) = (p1.length : Int))) = true then (some false) else (wEqSortKeyS_L0 p0 p1 0)
  partial_fixpoint
def wEqItem (p0 : GItem) (p1 : GItem) : Option Bool :=
  if (!(p0.star == p1.star)) = true then (some false) else (if (!decide (p0.qual = p1.qual)) = true then (some false) else ((wEqExpr p0.expr p1.expr) >>= fun (y1 : Bool) => if (!y1) = true then (some false) else (if (!decide (p0.as_ = p1.as_)) = true then (some false) else (some true))))
  partial_fixpoint
def wEqItemS_L0 (p0 : (List GItem)) (p1 : (List GItem)) (x5 : Int) : Option Bool :=
  if (decide (x5 < (p0.length : Int))) = true then ((idx p0 x5) >>= fun (y1 : GItem) => (idx p1 x5) >>= fun (y2 : GItem) => (wEqItem y1 y2) >>= fun (y3 : Bool) => if (!y3) = true then (some false) else (wEqItemS_L0 p0 p1 (IntKind.wrap .i64 (x5 + 1)))) else (some true)
  partial_fixpoint
def wEqItemS (p0 : (List GItem)) (p1 : (List GItem)) : Option Bool :=
  if (!decide ((p0.length : Int) = (p1.length : Int))) = true then (some false) else (wEqItemS_L0 p0 p1 0)
  partial_fixpoint
def wEqQuery (p0 : GQuery) (p1 : GQuery) : Option Bool :=
  if (!(p0.distinct == p1.distinct)) = true then (some false) else ((wEqItemS p0.items p1.items) >>= fun (y1 : Bool) => if (!y1) = true then (some false) else ((wEqSourceS p0.from_ p1.from_) >>= fun (y2 : Bool) => if (!y2) = true then (some false) else ((wEqExprS p0.where_ p1.where_) >>= fun (y3 : Bool) => if (!y3) = true then (some false) else ((wEqSortKeyS p0.order p1.order) >>= fun (y4 : Bool) => if (!y4) = true then (some false) else (if (!decide (p0.limit = p1.limit)) = true then (some false) else (some true))))))
  partial_fixpoint
def wEqQueryS_L0 (p0 : (List GQuery)) (p1 : (List GQuery)) (x5 : Int) : Option Bool :=
  if (decide (x5 < (p0.length : Int))) = true then ((idx p0 x5) >>= fun (y1 : GQuery) => (idx p1 x5) >>= fun (y2 : GQuery) => (wEqQuery y1 y2) >>= fun (y3 : Bool) => if (!y3) = true then (some false) else (wEqQueryS_L0 p0 p1 (IntKind.wrap .i64 (x5 + 1)))) else (some true)
  partial_fixpoint
def wEqQueryS (p0 : (List GQuery)) (p1 : (List GQuery)) : Option Bool :=
  if (!decide ((p0.length : Int) = (p1.length : Int))) = true then (some false) else (wEqQueryS_L0 p0 p1 0)
  partial_fixpoint
def wEqExpr (p0 : GExpr) (p1 : GExpr) : Option Bool :=
  if (!decide (p0.kind = p1.kind)) = true then (some false) else (if (!decide (p0.op = p1.op)) = true then (some false) else (if (!(p0.not_ == p1.not_)) = true then (some false) else ((wEqValue p0.value p1.value) >>= fun (y1 : Bool) => if (!y1) = true then (some false) else (if (!decide (p0.qual = p1.qual)) = true then (some false) else (if (!decide (p0.name = p1.name)) = true then (some false) else ((wEqExprS p0.kids p1.kids) >>= fun (y2 : Bool) => if (!y2) = true then (some false) else ((wEqQueryS p0.sub p1.sub) >>= fun (y3 : Bool) => if (!y3) = true then (some false) else (some true))))))))
  partial_fixpoint
def wEqExprS_L0 (p0 : (List GExpr)) (p1 : (List GExpr)) (x5 : Int) : Option Bool :=
  if (decide (x5 < (p0.length : Int))) = true then ((idx p0 x5) >>= fun (y1 : GExpr) => (idx p1 x5) >>= fun (y2 : GExpr) => (wEqExpr y1 y2) >>= fun (y3 : Bool) => if (!y3) = true then (some false) else (wEqExprS_L0 p0 p1 (IntKind.wrap .i64 (x5 + 1)))) else (some true)
  partial_fixpoint
def wEqExprS (p0 : (List GExpr)) (p1 : (List GExpr)) : Option Bool :=
  if (!decide ((p0.length : Int) = (p1.length : Int))) = true then (some false) else (wEqExprS_L0 p0 p1 0)
  partial_fixpoint
end
def wEqExprSS_L0 (p0 : (List (List GExpr))) (p1 : (List (List GExpr))) (x5 : Int) : Option Bool :=
  if (decide (x5 < (p0.length : Int))) = true then ((idx p0 x5) >>= fun (y1 : (List GExpr)) => (idx p1 x5) >>= fun (y2 : (List GExpr)) => (wEqExprS y1 y2) >>= fun (y3 : Bool) => if (!y3) = true then (some false) else (wEqExprSS_L0 p0 p1 (IntKind.wrap .i64 (x5 + 1)))) else (some true)
  partial_fixpoint
def wEqExprSS (p0 : (List (List GExpr))) (p1 : (List (List GExpr))) : Option Bool :=
  if (!decide ((p0.length : Int) = (p1.length : Int))) = true then (some false) else (wEqExprSS_L0 p0 p1 0)
def wEqStringS_L0 (p0 : (List (List UInt8))) (p1 : (List (List UInt8))) (x5 : Int) : Option Bool :=
  if (decide (x5 < (p0.length : Int))) = true then ((idx p0 x5) >>= fun (y1 : (List UInt8)) => (idx p1 x5) >>= fun (y2 : (List UInt8)) => if (!decide (y1 = y2)) = true then (some false) else (wEqStringS_L0 p0 p1 (IntKind.wrap .i64 (x5 + 1)))) else (some true)
  partial_fixpoint
def wEqStringS (p0 : (List (List UInt8))) (p1 : (List (List UInt8))) : Option Bool :=
  if (!decide ((p0.length : Int) = (p1.length : Int))) = true then (some false) else (wEqStringS_L0 p0 p1 0)
def wEqStmt (p0 : GStmt) (p1 : GStmt) : Option Bool :=
  if (!decide (p0.kind = p1.kind)) = true then (some false) else ((wEqQuery p0.query p1.query) >>= fun (y1 : Bool) => if (!y1) = true then (some false) else (if (!decide (p0.table = p1.table)) = true then (some false) else ((wEqExprSS p0.rows p1.rows) >>= fun (y2 : Bool) => if (!y2) = true then (some false) else ((wEqStringS p0.cols p1.cols) >>= fun (y3 : Bool) => if (!y3) = true then (some false) else ((wEqExprS p0.sets p1.sets) >>= fun (y4 : Bool) => if (!y4) = true then (some false) else ((wEqExprS p0.where_ p1.where_) >>= fun (y5 : Bool) => if (!y5) = true then (some false) else (some true)))))))
def wSzValue (p0 : GValue) (p1 : Int) : Option Int :=
  if (decide ((IntKind.wrap .i64 (p1 - (p0.text.length : Int))) < 0)) = true then (some (-1)) else (some (IntKind.wrap .i64 (p1 - (p0.text.length : Int))))
mutual
def wSzSource (p0 : GSource) (p1 : Int) : Option Int :=
  if (decide ((IntKind.wrap .i64 (p1 - (p0.table.length : Int))) < 0)) = true then (some (-1)) else (if (decide ((IntKind.wrap .i64 ((IntKind.wrap .i64 (p1 - (p0.table.length : Int))) - (p0.as_.length : Int))) < 0)) = true then (some (-1)) else ((wSzExprS p0.on_ (IntKind.wrap .i64 ((IntKind.wrap .i64 (p1 - (p0.table.length : Int))) - (p0.as_.length : Int)))) >>= fun (y1 : Int) => if (decide (y1 < 0)) = true then (some (-1)) else (some y1)))
  partial_fixpoint
def wSzSourceS_L0 (p0 : (List GSource)) (x1 : Int) (x5 : Int) : Option Int :=
  if (decide (x5 < (p0.length : Int))) = true then ((idx p0 x5) >>= fun (y1 : GSource) => (wSzSource y1 x1) >>= fun (y2 : Int) => if (decide (y2 < 0)) = true then (some (-1)) else (wSzSourceS_L0 p0 y2 (IntKind.wrap .i64 (x5 + 1)))) else (some x1)
  partial_fixpoint
def wSzSourceS (p0 : (List GSource)) (p1 : Int) : Option Int :=
  if (decide ((IntKind.wrap .i64 (p1 - (p0.length : Int))) < 0)) = true then (some (-1)) else (wSzSourceS_L0 p0 (IntKind.wrap .i64 (p1 - (p0.length : Int))) 0)
  partial_fixpoint
def wSzSortKey (p0 : GSortKey) (p1 : Int) : Option Int :=
  (wSzExpr p0.expr p1) >>= fun (y1 : Int) => if (decide (y1 < 0)) = true then (some (-1)) else (some y1)
  partial_fixpoint
def wSzSortKeyS_L0 (p0 : (List GSortKey)) (x1 : Int) (x5 : Int) : Option Int :=
  if (decide (x5 < (p0.length : Int))) = true then ((idx p0 x5) >>= fun (y1 : GSortKey) => (wSzSortKey y1 x1) >>= fun (y2 : Int) => if (decide (y2 < 0)) = true then (some (-1)) else (wSzSortKeyS_L0 p0 y2 (IntKind.wrap .i64 (x5 + 1)))) else (some x1)
  partial_fixpoint
def wSzSortKeyS (p0 : (List GSortKey)) (p1 : Int) : Option Int :=
  if (decide ((IntKind.wrap .i64 (p1 - (p0.length : Int))) < 0)) = true then (some (-1)) else (wSzSortKeyS_L0 p0 (IntKind.wrap .i64 (p1 - (p0.length : Int))) 0)
  partial_fixpoint
def wSzItem (p0 : GItem) (p1 : Int) : Option Int :=
  if (decide ((IntKind.wrap .i64 (p1 - (p0.qual.length : Int))) < 0)) = true then (some (-1)) else ((wSzExpr p0.expr (IntKind.wrap .i64 (p1 - (p0.qual.length : Int)))) >>= fun (y1 : Int) => if (decide (y1 < 0)) = true then (some (-1)) else (if (decide ((IntKind.wrap .i64 (y1 - (p0.as_.length : Int))) < 0)) = true then (some (-1)) else (some (IntKind.wrap .i64 (y1 - (p0.as_.length : Int))))))
  partial_fixpoint
def wSzItemS_L0 (p0 : (List GItem)) (x1 : Int) (x5 : Int) : Option Int :=
  if (decide (x5 < (p0.length : Int))) = true then ((idx p0 x5) >>= fun (y1 : GItem) => (wSzItem y1 x1) >>= fun (y2 : Int) => if (decide (y2 < 0)) = true then (some (-1)) else (wSzItemS_L0 p0 y2 (IntKind.wrap .i64 (x5 + 1)))) else (some x1)
  partial_fixpoint
def wSzItemS (p0 : (List GItem)) (p1 : Int) : Option Int :=
  if (decide ((IntKind.wrap .i64 (p1 - (p0.length : Int))) < 0)) = true then (some (-1)) else (wSzItemS_L0 p0 (IntKind.wrap .i64 (p1 - (p0.length : Int))) 0)
  partial_fixpoint
def wSzQuery (p0 : GQuery) (p1 : Int) : Option Int :=
  (wSzItemS p0.items p1) >>= fun (y1 : Int) => if (decide (y1 < 0)) = true then (some (-1)) else ((wSzSourceS p0.from_ y1) >>= fun (y2 : Int) => if (decide (y2 < 0)) = true then (some (-1)) else ((wSzExprS p0.where_ y2) >>= fun (y3 : Int) => if (decide (y3 < 0)) = true then (some (-1)) else ((wSzSortKeyS p0.order y3) >>= fun (y4 : Int) => if (decide (y4 < 0)) = true then (some (-1)) else (some y4))))
  partial_fixpoint
def wSzQueryS_L0 (p0 : (List GQuery)) (x1 : Int) (x5 : Int) : Option Int :=
  if (decide (x5 < (p0.length : Int))) = true then ((idx p0 x5) >>= fun (y1 : GQuery) => (wSzQuery y1 x1) >>= fun (y2 : Int) => if (decide (y2 < 0)) = true then (some (-1)) else (wSzQueryS_L0 p0 y2 (IntKind.wrap .i64 (x5 + 1)))) else (some x1)
  partial_fixpoint
def wSzQueryS (p0 : (List GQuery)) (p1 : Int) : Option Int :=
  if (decide ((IntKind.wrap .i64 (p1 - (p0.length : Int))) < 0)) = true then (some (-1)) else (wSzQueryS_L0 p0 (IntKind.wrap .i64 (p1 - (p0.length : Int))) 0)
  partial_fixpoint
def wSzExpr (p0 : GExpr) (p1 : Int) : Option Int :=
  (wSzValue p0.value p1) >>= fun (y1 : Int) => if (decide (y1 < 0)) = true then (some (-1)) else (if (decide ((IntKind.wrap .i64 (y1 - (p0.qual.length : Int))) < 0)) = true then (some (-1)) else (if (decide ((IntKind.wrap .i64 ((IntKind.wrap .i64 (y1 - (p0.qual.length : Int))) - (p0.name.length : Int))) < 0)) = true then (some (-1)) else ((wSzExprS p0.kids (IntKind.wrap .i64 ((IntKind.wrap .i64 (y1 - (p0.qual.length : Int))) - (p0.name.length : Int)))) >>= fun (y2 : Int) => if (decide (y2 < 0)) = true then (some (-1)) else ((wSzQueryS p0.sub y2) >>= fun (y3 : Int) => if (decide (y3 < 0)) = true then (some (-1)) else (some y3)))))
  partial_fixpoint
def wSzExprS_L0 (p0 : (List GExpr)) (x1 : Int) (x5 : Int) : Option Int :=
  if (decide (x5 < (p0.length : Int))) = true then ((idx p0 x5) >>= fun (y1 : GExpr) => (wSzExpr y1 x1) >>= fun (y2 : Int) => if (decide (y2 < 0)) = true then (some (-1)) else (wSzExprS_L0 p0 y2 (IntKind.wrap .i64 (x5 + 1)))) else (some x1)
  partial_fixpoint
def wSzExprS (p0 : (List GExpr)) (p1 : Int) : Option Int :=
  if (decide ((IntKind.wrap .i64 (p1 - (p0.length : Int))) < 0)) = true then (some (-1)) else (wSzExprS_L0 p0 (IntKind.wrap .i64 (p1 - (p0.length : Int))) 0)
  partial_fixpoint
end
def wSzExprSS_L0 (p0 : (List (List GExpr))) (x1 : Int) (x5 : Int) : Option Int :=
  if (decide (x5 < (p0.length : Int))) = true then ((idx p0 x5) >>= fun (y1 : (List GExpr)) => (wSzExprS y1 x1) >>= fun (y2 : Int) => if (decide (y2 < 0)) = true then (some (-1)) else (wSzExprSS_L0 p0 y2 (IntKind.wrap .i64 (x5 + 1)))) else (some x1)
  partial_fixpoint
def wSzExprSS (p0 : (List (List GExpr))) (p1 : Int) : Option Int :=
  if (decide ((IntKind.wrap .i64 (p1 - (p0.length : Int))) < 0)) = true then (some (-1)) else (wSzExprSS_L0 p0 (IntKind.wrap .i64 (p1 - (p0.length : Int))) 0)
def wSzStringS_L0 (p0 : (List (List UInt8))) (x1 : Int) (x5 : Int) : Option Int :=
  if (decide (x5 < (p0.length : Int))) = true then ((idx p0 x5) >>= fun (y1 : (List UInt8)) => if (decide ((IntKind.wrap .i64 (x1 - (y1.length : Int))) < 0)) = true then (some (-1)) else (wSzStringS_L0 p0 (IntKind.wrap .i64 (x1 - (y1.length : Int))) (IntKind.wrap .i64 (x5 + 1)))) else (some x1)
  partial_fixpoint
def wSzStringS (p0 : (List (List UInt8))) (p1 : Int) : Option Int :=
  if (decide ((IntKind.wrap .i64 (p1 - (p0.length : Int))) < 0)) = true then (some (-1)) else (wSzStringS_L0 p0 (IntKind.wrap .i64 (p1 - (p0.length : Int))) 0)
def wSzStmt (p0 : GStmt) (p1 : Int) : Option Int :=
  (wSzQuery p0.query p1) >>= fun (y1 : Int) => if (decide (y1 < 0)) = true then (some (-1)) else (if (decide ((IntKind.wrap .i64 (y1 - (p0.table.length : Int))) < 0)) = true then (some (-1)) else ((wSzExprSS p0.rows (IntKind.wrap .i64 (y1 - (p0.table.length : Int)))) >>= fun (y2 : Int) => if (decide (y2 < 0)) = true then (some (-1)) else ((wSzStringS p0.cols y2) >>= fun (y3 : Int) => if (decide (y3 < 0)) = true then (some (-1)) else ((wSzExprS p0.sets y3) >>= fun (y4 : Int) => if (decide (y4 < 0)) = true then (some (-1)) else ((wSzExprS p0.where_ y4) >>= fun (y5 : Int) => if (decide (y5 < 0)) = true then (some (-1)) else (some y5))))))
def wToValue (p0 : GValue) : Option GValue :=
  some p0
mutual
def wToSource (p0 : GSource) : Option GSource :=
  (wToExprS p0.on_) >>= fun (y1 : (List GExpr)) => some (GSource.mk p0.table p0.as_ y1)
  partial_fixpoint
def wToSourceS_L0 (p0 : (List GSource)) (x4 : Int) (b7_0 : (List GSource)) : Option (List GSource) :=
  if (decide (x4 < (p0.length : Int))) = true then ((idx p0 x4) >>= fun (y2 : GSource) => (wToSource y2) >>= fun (y3 : GSource) => (idx b7_0 x4) >>= fun (y4 : GSource) => (setG b7_0 x4 y3) >>= fun (y5 : (List GSource)) => wToSourceS_L0 p0 (IntKind.wrap .i64 (x4 + 1)) y5) else (some b7_0)
  partial_fixpoint
def wToSourceS (p0 : (List GSource)) : Option (List GSource) :=
  (mkG 56 (p0.length : Int) ((GSource.mk [] [] ([] : List GExpr)) : GSource)) >>= fun (y1 : (List GSource)) => wToSourceS_L0 p0 0 y1
  partial_fixpoint
def wToSortKey (p0 : GSortKey) : Option GSortKey :=
  (wToExpr p0.expr) >>= fun (y1 : GExpr) => some (GSortKey.mk y1 p0.desc)
  partial_fixpoint
def wToSortKeyS_L0 (p0 : (List GSortKey)) (x4 : Int) (b7_0 : (List GSortKey)) : Option (List GSortKey) :=
  if (decide (x4 < (p0.length : Int))) = true then ((idx p0 x4) >>= fun (y2 : GSortKey) => (wToSortKey y2) >>= fun (y3 : GSortKey) => (idx b7_0 x4) >>= fun (y4 : GSortKey) => (setG b7_0 x4 y3) >>= fun (y5 : (List GSortKey)) => wToSortKeyS_L0 p0 (IntKind.wrap .i64 (x4 + 1)) y5) else (some b7_0)
  partial_fixpoint
def wToSortKeyS (p0 : (List GSortKey)) : Option (List GSortKey) :=
  (mkG 144 (p0.length : Int) ((GSortKey.mk (GExpr.mk 0 0 false (GValue.mk 0 0 []) [] [] ([] : List GExpr) ([] : List GQuery)) false) : GSortKey)) >>= fun (y1 : (List GSortKey)) => wToSortKeyS_L0 p0 0 y1
  partial_fixpoint
def wToItem (p0 : GItem) : Option GItem :=
  (wToExpr p0.expr) >>= fun (y1 : GExpr) => some (GItem.mk p0.star p0.qual y1 p0.as_)
  partial_fixpoint
def wToItemS_L0 (p0 : (List GItem)) (x4 : Int) (b7_0 : (List GItem)) : Option (List GItem) :=
  if (decide (x4 < (p0.length : Int))) = true then ((idx p0 x4) >>= fun (y2 : GItem) => (wToItem y2) >>= fun (y3 : GItem) => (idx b7_0 x4) >>= fun (y4 : GItem) => (setG b7_0 x4 y3) >>= fun (y5 : (List GItem)) => wToItemS_L0 p0 (IntKind.wrap .i64 (x4 + 1)) y5) else (some b7_0)
  partial_fixpoint
def wToItemS (p0 : (List GItem)) : Option (List GItem) :=
  (mkG 176 (p0.length : Int) ((GItem.mk false [] (GExpr.mk 0 0 false (GValue.mk 0 0 []) [] [] ([] : List GExpr) ([] : List GQuery)) []) : GItem)) >>= fun (y1 : (List GItem)) => wToItemS_L0 p0 0 y1
  partial_fixpoint
def wToQuery (p0 : GQuery) : Option GQuery :=
  (wToItemS p0.items) >>= fun (y1 : (List GItem)) => (wToSourceS p0.from_) >>= fun (y2 : (List GSource)) => (wToExprS p0.where_) >>= fun (y3 : (List GExpr)) => (wToSortKeyS p0.order) >>= fun (y4 : (List GSortKey)) => some (GQuery.mk p0.distinct y1 y2 y3 y4 p0.limit)
  partial_fixpoint
def wToQueryS_L0 (p0 : (List GQuery)) (x4 : Int) (b7_0 : (List GQuery)) : Option (List GQuery) :=
  if (decide (x4 < (p0.length : Int))) = true then ((idx p0 x4) >>= fun (y2 : GQuery) => (wToQuery y2) >>= fun (y3 : GQuery) => (idx b7_0 x4) >>= fun (y4 : GQuery) => (setG b7_0 x4 y3) >>= fun (y5 : (List GQuery)) => wToQueryS_L0 p0 (IntKind.wrap .i64 (x4 + 1)) y5) else (some b7_0)
  partial_fixpoint
def wToQueryS (p0 : (List GQuery)) : Option (List GQuery) :=
  (mkG 112 (p0.length : Int) ((GQuery.mk false ([] : List GItem) ([] : List GSource) ([] : List GExpr) ([] : List GSortKey) 0) : GQuery)) >>= fun (y1 : (List GQuery)) => wToQueryS_L0 p0 0 y1
  partial_fixpoint
def wToExpr (p0 : GExpr) : Option GExpr :=
  (wToValue p0.value) >>= fun (y1 : GValue) => (wToExprS p0.kids) >>= fun (y2 : (List GExpr)) => (wToQueryS p0.sub) >>= fun (y3 : (List GQuery)) => some (GExpr.mk p0.kind p0.op p0.not_ y1 p0.qual p0.name y2 y3)
  partial_fixpoint
def wToExprS_L0 (p0 : (List GExpr)) (x4 : Int) (b7_0 : (List GExpr)) : Option (List GExpr) :=
  if (decide (x4 < (p0.length : Int))) = true then ((idx p0 x4) >>= fun (y2 : GExpr) => (wToExpr y2) >>= fun (y3 : GExpr) => (idx b7_0 x4) >>= fun (y4 : GExpr) => (setG b7_0 x4 y3) >>= fun (y5 : (List GExpr)) => wToExprS_L0 p0 (IntKind.wrap .i64 (x4 + 1)) y5) else (some b7_0)
  partial_fixpoint
def wToExprS (p0 : (List GExpr)) : Option (List GExpr) :=
  (mkG 136 (p0.length : Int) ((GExpr.mk 0 0 false (GValue.mk 0 0 []) [] [] ([] : List GExpr) ([] : List GQuery)) : GExpr)) >>= fun (y1 : (List GExpr)) => wToExprS_L0 p0 0 y1
  partial_fixpoint
end
def wToExprSS_L0 (p0 : (List (List GExpr))) (x4 : Int) (b7_0 : (List (List GExpr))) : Option (List (List GExpr)) :=
  if (decide (x4 < (p0.length : Int))) = true then ((idx p0 x4) >>= fun (y2 : (List GExpr)) => (wToExprS y2) >>= fun (y3 : (List GExpr)) => (idx b7_0 x4) >>= fun (y4 : (List GExpr)) => (setG b7_0 x4 y3) >>= fun (y5 : (List (List GExpr))) => wToExprSS_L0 p0 (IntKind.wrap .i64 (x4 + 1)) y5) else (some b7_0)
  partial_fixpoint
def wToExprSS (p0 : (List (List GExpr))) : Option (List (List GExpr)) :=
  (mkG 24 (p0.length : Int) (([] : List GExpr) : (List GExpr))) >>= fun (y1 : (List (List GExpr))) => wToExprSS_L0 p0 0 y1
def wToStringS_L0 (p0 : (List (List UInt8))) (x4 : Int) (b7_0 : (List (List UInt8))) : Option (List (List UInt8)) :=
  if (decide (x4 < (p0.length : Int))) = true then ((idx p0 x4) >>= fun (y2 : (List UInt8)) => (idx b7_0 x4) >>= fun (y3 : (List UInt8)) => (setG b7_0 x4 y2) >>= fun (y4 : (List (List UInt8))) => wToStringS_L0 p0 (IntKind.wrap .i64 (x4 + 1)) y4) else (some b7_0)
  partial_fixpoint
def wToStringS (p0 : (List (List UInt8))) : Option (List (List UInt8)) :=
  (mkG 16 (p0.length : Int) ([] : (List UInt8))) >>= fun (y1 : (List (List UInt8))) => wToStringS_L0 p0 0 y1
def wToStmt (p0 : GStmt) : Option GStmt :=
  (wToQuery p0.query) >>= fun (y1 : GQuery) => (wToExprSS p0.rows) >>= fun (y2 : (List (List GExpr))) => (wToStringS p0.cols) >>= fun (y3 : (List (List UInt8))) => (wToExprS p0.sets) >>= fun (y4 : (List GExpr)) => (wToExprS p0.where_) >>= fun (y5 : (List GExpr)) => some (GStmt.mk p0.kind y1 p0.table y2 y3 y4 y5)
def wFnExactStmtOk (p0 : GStmt) : Option Bool :=
  (wSzStmt p0 1048576) >>= fun (y1 : Int) => if (decide (y1 < 0)) = true then (some true) else ((wToStmt p0) >>= fun (y2 : GStmt) => (sStmtOk y2) >>= fun (y3 : Bool) => (wToStmt p0) >>= fun (y4 : GStmt) => (iStmtOk y4) >>= fun (y5 : Bool) => if (!(y5 == y3)) = true then (some false) else ((wToStmt p0) >>= fun (y6 : GStmt) => (wEqStmt y4 y6) >>= fun (y7 : Bool) => if (!y7) = true then (some false) else (some true)))
end Go.Ab
