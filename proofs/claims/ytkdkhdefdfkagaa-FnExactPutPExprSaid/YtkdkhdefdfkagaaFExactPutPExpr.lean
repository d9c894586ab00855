/- The functions of the program, as Lean functions (printed by a program). -/
import Derived.Test.YtkdkhdefdfkagaaAbF0
namespace Go.Ab
open Go
structure GValue where
  kind : Int
  num : Int
  text : (List UInt8)
instance : Inhabited GValue := ⟨(GValue.mk 0 0 [])⟩
mutual
structure GPExpr where
  kind : Int
  op : Int
  not_ : Bool
  value : GValue
  up : Int
  at_ : Int
  kids : (List GPExpr)
  sub : (List GPlan)
structure GPSort where
  expr : GPExpr
  desc : Bool
structure GPlan where
  tables : (List Int)
  on_ : (List (List GPExpr))
  where_ : (List GPExpr)
  order : (List GPSort)
  items : (List GPExpr)
  names : (List (List UInt8))
  distinct : Bool
  limit : Int
end
instance : Inhabited GPExpr := ⟨(GPExpr.mk 0 0 false (GValue.mk 0 0 []) 0 0 [] [])⟩
instance : Inhabited GPSort := ⟨(GPSort.mk (GPExpr.mk 0 0 false (GValue.mk 0 0 []) 0 0 [] []) false)⟩
instance : Inhabited GPlan := ⟨(GPlan.mk [] [] [] [] [] [] false 0)⟩
def okGValue (x : GValue) : Prop := okI x.kind ∧ okI x.num ∧ okS x.text
mutual
def okGPExpr : GPExpr → Prop
  | ⟨a0, a1, a2, a3, a4, a5, a6, a7⟩ => okI a0 ∧ okI a1 ∧ okB a2 ∧ okGValue a3 ∧ okI a4 ∧ okI a5 ∧ (a6.length ≤ 9223372036854775807 ∧ okLGPExpr a6) ∧ (a7.length ≤ 9223372036854775807 ∧ okLGPlan a7)
def okGPSort : GPSort → Prop
  | ⟨a0, a1⟩ => okGPExpr a0 ∧ okB a1
def okGPlan : GPlan → Prop
  | ⟨a0, a1, a2, a3, a4, a5, a6, a7⟩ => (okL okI) a0 ∧ (a1.length ≤ 9223372036854775807 ∧ okLLGPExpr a1) ∧ (a2.length ≤ 9223372036854775807 ∧ okLGPExpr a2) ∧ (a3.length ≤ 9223372036854775807 ∧ okLGPSort a3) ∧ (a4.length ≤ 9223372036854775807 ∧ okLGPExpr a4) ∧ (okL okS) a5 ∧ okB a6 ∧ okI a7
def okLGPExpr : List GPExpr → Prop
  | [] => True
  | x :: l => okGPExpr x ∧ okLGPExpr l
def okLGPSort : List GPSort → Prop
  | [] => True
  | x :: l => okGPSort x ∧ okLGPSort l
def okLGPlan : List GPlan → Prop
  | [] => True
  | x :: l => okGPlan x ∧ okLGPlan l
def okLLGPExpr : List (List GPExpr) → Prop
  | [] => True
  | x :: l => (x.length ≤ 9223372036854775807 ∧ okLGPExpr x) ∧ okLLGPExpr l
end
def gStrings_Builder_String_x (c0_1 : (List Int)) : Option ((List UInt8) × (List Int)) :=
  (ofBytes c0_1) >>= fun (y : List UInt8) => some (y, c0_1)
def gStrings_Builder_copyCheck_x (c0_1 : (List Int)) : Option Unit :=
  some ()
def gStrings_Builder_WriteString_x (c0_1 : (List Int)) (p1 : (List UInt8)) : Option (Int × (List Int)) :=
  (gStrings_Builder_copyCheck_x c0_1) >>= fun (y1 : Unit) => (appG 1 c0_1 (toBytes p1)) >>= fun (y2 : List Int) => some ((p1.length : Int), y2)
def iPutVar_L0 (x0 : Int) (x3 : (List Int)) : Option (List UInt8) :=
  if (decide (128 ≤ x0)) = true then ((appG 1 x3 ([(IntKind.wrap .u8 ((BitVec.ofInt (IntKind.bits .u8) (IntKind.wrap .u8 x0) ||| BitVec.ofInt (IntKind.bits .u8) 128).toNat : Int))] : List Int)) >>= fun (y1 : List Int) => iPutVar_L0 (Int.fdiv x0 (2 ^ 7)) y1) else ((appG 1 x3 ([(IntKind.wrap .u8 x0)] : List Int)) >>= fun (y2 : List Int) => (ofBytes y2) >>= fun (y3 : (List UInt8)) => some y3)
  partial_fixpoint
def iPutVar (p0 : Int) : Option (List UInt8) :=
  iPutVar_L0 p0 ([] : List Int)
def iZig (p0 : Int) : Option Int :=
  some (IntKind.wrap .u64 ((BitVec.ofInt (IntKind.bits .u64) (IntKind.wrap .u64 ((IntKind.wrap .u64 p0) * 2 ^ 1)) ^^^ BitVec.ofInt (IntKind.bits .u64) (IntKind.wrap .u64 (Int.fdiv p0 (2 ^ 63)))).toNat : Int))
def iWriter_number_x (c0_1 : (List Int)) (p1 : Int) : Option (List Int) :=
  (iZig p1) >>= fun (y1 : Int) => (iPutVar y1) >>= fun (y2 : (List UInt8)) => (gStrings_Builder_WriteString_x c0_1 y2) >>= fun (y3 : Int × (List Int)) => some y3.2
def iWriter_flag_x (c0_1 : (List Int)) (p1 : Bool) : Option (List Int) :=
  if p1 = true then ((iWriter_number_x c0_1 1) >>= fun (y1 : (List Int)) => some y1) else ((iWriter_number_x c0_1 0) >>= fun (y2 : (List Int)) => some y2)
def iWriter_text_x (c0_1 : (List Int)) (p1 : (List UInt8)) : Option (List Int) :=
  (iWriter_number_x c0_1 (p1.length : Int)) >>= fun (y1 : (List Int)) => (gStrings_Builder_WriteString_x y1 p1) >>= fun (y2 : Int × (List Int)) => some y2.2
def iWriter_plan_x_L3 (p1 : GPlan) (x81 : Int) (b1000000_1_16 : (List Int)) : Option (List Int) :=
  if (decide (x81 < (p1.names.length : Int))) = true then ((idx p1.names x81) >>= fun (y17 : (List UInt8)) => (iWriter_text_x b1000000_1_16 y17) >>= fun (y18 : (List Int)) => iWriter_plan_x_L3 p1 (IntKind.wrap .i64 (x81 + 1)) y18) else ((iWriter_flag_x b1000000_1_16 p1.distinct) >>= fun (y19 : (List Int)) => (iWriter_number_x y19 p1.limit) >>= fun (y20 : (List Int)) => some y20)
  partial_fixpoint
mutual
def iWriter_plan_x_L2 (p1 : GPlan) (x56 : Int) (b1000000_1_10 : (List Int)) : Option (List Int) :=
  if (decide (x56 < (p1.order.length : Int))) = true then ((idx p1.order x56) >>= fun (y11 : GPSort) => (iWriter_expr_x b1000000_1_10 y11.expr) >>= fun (y12 : (List Int)) => (iWriter_flag_x y12 y11.desc) >>= fun (y13 : (List Int)) => iWriter_plan_x_L2 p1 (IntKind.wrap .i64 (x56 + 1)) y13) else ((iWriter_exprs_x b1000000_1_10 p1.items) >>= fun (y14 : (List Int)) => (iWriter_number_x y14 (p1.names.length : Int)) >>= fun (y15 : (List Int)) => iWriter_plan_x_L3 p1 0 y15)
  partial_fixpoint
def iWriter_exprs_x_L0 (p1 : (List GPExpr)) (x12 : Int) (b1000000_1 : (List Int)) : Option (List Int) :=
  if (decide (x12 < (p1.length : Int))) = true then ((idx p1 x12) >>= fun (y2 : GPExpr) => (iWriter_expr_x b1000000_1 y2) >>= fun (y3 : (List Int)) => iWriter_exprs_x_L0 p1 (IntKind.wrap .i64 (x12 + 1)) y3) else (some b1000000_1)
  partial_fixpoint
def iWriter_exprs_x (c0_1 : (List Int)) (p1 : (List GPExpr)) : Option (List Int) :=
  (iWriter_number_x c0_1 (p1.length : Int)) >>= fun (y1 : (List Int)) => iWriter_exprs_x_L0 p1 0 y1
  partial_fixpoint
def iWriter_plan_x_L1 (p1 : GPlan) (x36 : Int) (b1000000_1_5 : (List Int)) : Option (List Int) :=
  if (decide (x36 < (p1.on_.length : Int))) = true then ((idx p1.on_ x36) >>= fun (y6 : (List GPExpr)) => (iWriter_exprs_x b1000000_1_5 y6) >>= fun (y7 : (List Int)) => iWriter_plan_x_L1 p1 (IntKind.wrap .i64 (x36 + 1)) y7) else ((iWriter_exprs_x b1000000_1_5 p1.where_) >>= fun (y8 : (List Int)) => (iWriter_number_x y8 (p1.order.length : Int)) >>= fun (y9 : (List Int)) => iWriter_plan_x_L2 p1 0 y9)
  partial_fixpoint
def iWriter_plan_x_L0 (p1 : GPlan) (x20 : Int) (b1000000_1 : (List Int)) : Option (List Int) :=
  if (decide (x20 < (p1.tables.length : Int))) = true then ((idx p1.tables x20) >>= fun (y2 : Int) => (iWriter_number_x b1000000_1 y2) >>= fun (y3 : (List Int)) => iWriter_plan_x_L0 p1 (IntKind.wrap .i64 (x20 + 1)) y3) else ((iWriter_number_x b1000000_1 (p1.on_.length : Int)) >>= fun (y4 : (List Int)) => iWriter_plan_x_L1 p1 0 y4)
  partial_fixpoint
def iWriter_plan_x (c0_1 : (List Int)) (p1 : GPlan) : Option (List Int) :=
  (iWriter_number_x c0_1 (p1.tables.length : Int)) >>= fun (y1 : (List Int)) => iWriter_plan_x_L0 p1 0 y1
  partial_fixpoint
def iWriter_expr_x_L0 (p1 : GPExpr) (x53 : Int) (b1000000_1 : (List Int)) : Option (List Int) :=
  if (decide (x53 < (p1.sub.length : Int))) = true then ((idx p1.sub x53) >>= fun (y11 : GPlan) => (iWriter_plan_x b1000000_1 y11) >>= fun (y12 : (List Int)) => iWriter_expr_x_L0 p1 (IntKind.wrap .i64 (x53 + 1)) y12) else (some b1000000_1)
  partial_fixpoint
def iWriter_expr_x (c0_1 : (List Int)) (p1 : GPExpr) : Option (List Int) :=
  (iWriter_number_x c0_1 p1.kind) >>= fun (y1 : (List Int)) => (iWriter_number_x y1 p1.op) >>= fun (y2 : (List Int)) => (iWriter_flag_x y2 p1.not_) >>= fun (y3 : (List Int)) => (iWriter_number_x y3 p1.value.kind) >>= fun (y4 : (List Int)) => (iWriter_number_x y4 p1.value.num) >>= fun (y5 : (List Int)) => (iWriter_text_x y5 p1.value.text) >>= fun (y6 : (List Int)) => (iWriter_number_x y6 p1.up) >>= fun (y7 : (List Int)) => (iWriter_number_x y7 p1.at_) >>= fun (y8 : (List Int)) => (iWriter_exprs_x y8 p1.kids) >>= fun (y9 : (List Int)) => (iWriter_number_x y9 (p1.sub.length : Int)) >>= fun (y10 : (List Int)) => iWriter_expr_x_L0 p1 0 y10
  partial_fixpoint
end
def iPutPExpr (p0 : GPExpr) : Option (List UInt8) :=
  (iWriter_expr_x ([] : List Int) p0) >>= fun (y1 : (List Int)) => (gStrings_Builder_String_x y1) >>= fun (y2 : (List UInt8) × (List Int)) => some y2.1
def sPutVar_L0 (x0 : Int) (x3 : (List Int)) : Option (List UInt8) :=
  if (decide (127 < x0)) = true then ((appG 1 x3 ([(IntKind.wrap .u8 (IntKind.wrap .u64 ((Int.tmod x0 128) + 128)))] : List Int)) >>= fun (y1 : List Int) => sPutVar_L0 (IntKind.wrap .u64 (Int.tdiv x0 128)) y1) else ((appG 1 x3 ([(IntKind.wrap .u8 x0)] : List Int)) >>= fun (y2 : List Int) => (ofBytes y2) >>= fun (y3 : (List UInt8)) => some y3)
  partial_fixpoint
def sPutVar (p0 : Int) : Option (List UInt8) :=
  sPutVar_L0 p0 ([] : List Int)
def sZig (p0 : Int) : Option Int :=
  if (decide (p0 < 0)) = true then (some (IntKind.wrap .u64 ((IntKind.wrap .u64 (2 * (IntKind.wrap .u64 (IntKind.wrap .i64 (0 - (IntKind.wrap .i64 (p0 + 1))))))) + 1))) else (some (IntKind.wrap .u64 (2 * (IntKind.wrap .u64 p0))))
def sL24Num_x (p0 : (List Int)) (p1 : Int) : Option (List Int) :=
  (sZig p1) >>= fun (y1 : Int) => (sPutVar y1) >>= fun (y2 : (List UInt8)) => (appG 1 p0 (toBytes y2)) >>= fun (y3 : List Int) => some y3
def sL24Flag_x (p0 : (List Int)) (p1 : Bool) : Option (List Int) :=
  if p1 = true then ((sL24Num_x p0 1) >>= fun (y1 : (List Int)) => some y1) else ((sL24Num_x p0 0) >>= fun (y2 : (List Int)) => some y2)
def sL24Text_x (p0 : (List Int)) (p1 : (List UInt8)) : Option (List Int) :=
  (sL24Num_x p0 (p1.length : Int)) >>= fun (y1 : (List Int)) => (appG 1 y1 (toBytes p1)) >>= fun (y2 : List Int) => some y2
def sL24Plan_x_L3 (p1 : GPlan) (x0_17 : (List Int)) (x8 : Int) : Option (List Int) :=
  if (decide (x8 < (p1.names.length : Int))) = true then ((idx p1.names x8) >>= fun (y18 : (List UInt8)) => (sL24Text_x x0_17 y18) >>= fun (y19 : (List Int)) => sL24Plan_x_L3 p1 y19 (IntKind.wrap .i64 (x8 + 1))) else ((sL24Flag_x x0_17 p1.distinct) >>= fun (y20 : (List Int)) => (sL24Num_x y20 p1.limit) >>= fun (y21 : (List Int)) => some y21)
  partial_fixpoint
mutual
def sL24Plan_x_L2 (p1 : GPlan) (x0_10 : (List Int)) (x7 : Int) : Option (List Int) :=
  if (decide (x7 < (p1.order.length : Int))) = true then ((idx p1.order x7) >>= fun (y11 : GPSort) => (sL24Expr_x x0_10 y11.expr) >>= fun (y12 : (List Int)) => (idx p1.order x7) >>= fun (y13 : GPSort) => (sL24Flag_x y12 y13.desc) >>= fun (y14 : (List Int)) => sL24Plan_x_L2 p1 y14 (IntKind.wrap .i64 (x7 + 1))) else ((sL24Exprs_x x0_10 p1.items) >>= fun (y15 : (List Int)) => (sL24Num_x y15 (p1.names.length : Int)) >>= fun (y16 : (List Int)) => sL24Plan_x_L3 p1 y16 0)
  partial_fixpoint
def sL24Exprs_x_L0 (p1 : (List GPExpr)) (x0 : (List Int)) (x5 : Int) : Option (List Int) :=
  if (decide (x5 < (p1.length : Int))) = true then ((idx p1 x5) >>= fun (y2 : GPExpr) => (sL24Expr_x x0 y2) >>= fun (y3 : (List Int)) => sL24Exprs_x_L0 p1 y3 (IntKind.wrap .i64 (x5 + 1))) else (some x0)
  partial_fixpoint
def sL24Exprs_x (p0 : (List Int)) (p1 : (List GPExpr)) : Option (List Int) :=
  (sL24Num_x p0 (p1.length : Int)) >>= fun (y1 : (List Int)) => sL24Exprs_x_L0 p1 y1 0
  partial_fixpoint
def sL24Plan_x_L1 (p1 : GPlan) (x0_5 : (List Int)) (x6 : Int) : Option (List Int) :=
  if (decide (x6 < (p1.on_.length : Int))) = true then ((idx p1.on_ x6) >>= fun (y6 : (List GPExpr)) => (sL24Exprs_x x0_5 y6) >>= fun (y7 : (List Int)) => sL24Plan_x_L1 p1 y7 (IntKind.wrap .i64 (x6 + 1))) else ((sL24Exprs_x x0_5 p1.where_) >>= fun (y8 : (List Int)) => (sL24Num_x y8 (p1.order.length : Int)) >>= fun (y9 : (List Int)) => sL24Plan_x_L2 p1 y9 0)
  partial_fixpoint
def sL24Plan_x_L0 (p1 : GPlan) (x0 : (List Int)) (x5 : Int) : Option (List Int) :=
  if (decide (x5 < (p1.tables.length : Int))) = true then ((idx p1.tables x5) >>= fun (y2 : Int) => (sL24Num_x x0 y2) >>= fun (y3 : (List Int)) => sL24Plan_x_L0 p1 y3 (IntKind.wrap .i64 (x5 + 1))) else ((sL24Num_x x0 (p1.on_.length : Int)) >>= fun (y4 : (List Int)) => sL24Plan_x_L1 p1 y4 0)
  partial_fixpoint
def sL24Plan_x (p0 : (List Int)) (p1 : GPlan) : Option (List Int) :=
  (sL24Num_x p0 (p1.tables.length : Int)) >>= fun (y1 : (List Int)) => sL24Plan_x_L0 p1 y1 0
  partial_fixpoint
def sL24Expr_x_L0 (p1 : GPExpr) (x0 : (List Int)) (x5 : Int) : Option (List Int) :=
  if (decide (x5 < (p1.sub.length : Int))) = true then ((idx p1.sub x5) >>= fun (y11 : GPlan) => (sL24Plan_x x0 y11) >>= fun (y12 : (List Int)) => sL24Expr_x_L0 p1 y12 (IntKind.wrap .i64 (x5 + 1))) else (some x0)
  partial_fixpoint
def sL24Expr_x (p0 : (List Int)) (p1 : GPExpr) : Option (List Int) :=
  (sL24Num_x p0 p1.kind) >>= fun (y1 : (List Int)) => (sL24Num_x y1 p1.op) >>= fun (y2 : (List Int)) => (sL24Flag_x y2 p1.not_) >>= fun (y3 : (List Int)) => (sL24Num_x y3 p1.value.kind) >>= fun (y4 : (List Int)) => (sL24Num_x y4 p1.value.num) >>= fun (y5 : (List Int)) => (sL24Text_x y5 p1.value.text) >>= fun (y6 : (List Int)) => (sL24Num_x y6 p1.up) >>= fun (y7 : (List Int)) => (sL24Num_x y7 p1.at_) >>= fun (y8 : (List Int)) => (sL24Exprs_x y8 p1.kids) >>= fun (y9 : (List Int)) => (sL24Num_x y9 (p1.sub.length : Int)) >>= fun (y10 : (List Int)) => sL24Expr_x_L0 p1 y10 0
  partial_fixpoint
end
def sPutPExpr (p0 : GPExpr) : Option (List UInt8) :=
  (sL24Expr_x ([] : List Int) p0) >>= fun (y1 : (List Int)) => (ofBytes y1) >>= fun (y2 : (List UInt8)) => some y2
def wEqIntS_L0 (p0 : (List Int)) (p1 : (List Int)) (x5 : Int) : Option Bool :=
  if (decide (x5 < (p0.length : Int))) = true then ((idx p0 x5) >>= fun (y1 : Int) => (idx p1 x5) >>= fun (y2 : Int) => if (!decide (y1 = y2)) = true then (some false) else (wEqIntS_L0 p0 p1 (IntKind.wrap .i64 (x5 + 1)))) else (some true)
  partial_fixpoint
def wEqIntS (p0 : (List Int)) (p1 : (List Int)) : Option Bool :=
  if (!decide ((p0.length : Int) = (p1.length : Int))) = true then (some false) else (wEqIntS_L0 p0 p1 0)
def wEqStringS_L0 (p0 : (List (List UInt8))) (p1 : (List (List UInt8))) (x5 : Int) : Option Bool :=
  if (decide (x5 < (p0.length : Int))) = true then ((idx p0 x5) >>= fun (y1 : (List UInt8)) => (idx p1 x5) >>= fun (y2 : (List UInt8)) => if (!decide (y1 = y2)) = true then (some false) else (wEqStringS_L0 p0 p1 (IntKind.wrap .i64 (x5 + 1)))) else (some true)
  partial_fixpoint
def wEqStringS (p0 : (List (List UInt8))) (p1 : (List (List UInt8))) : Option Bool :=
  if (!decide ((p0.length : Int) = (p1.length : Int))) = true then (some false) else (wEqStringS_L0 p0 p1 0)
def wEqValue (p0 : GValue) (p1 : GValue) : Option Bool :=
  if (!decide (p0.kind = p1.kind)) = true then (some false) else (if (!decide (p0.num = p1.num)) = true then (some false) else (if (!decide (p0.text = p1.text)) = true then (some false) else (some true)))
mutual
def wEqPSort (p0 : GPSort) (p1 : GPSort) : Option Bool :=
  (wEqPExpr p0.expr p1.expr) >>= fun (y1 : Bool) => if (!y1) = true then (some false) else (if (!(p0.desc == p1.desc)) = true then (some false) else (some true))
  partial_fixpoint
def wEqPSortS_L0 (p0 : (List GPSort)) (p1 : (List GPSort)) (x5 : Int) : Option Bool :=
  if (decide (x5 < (p0.length : Int))) = true then ((idx p0 x5) >>= fun (y1 : GPSort) => (idx p1 x5) >>= fun (y2 : GPSort) => (wEqPSort y1 y2) >>= fun (y3 : Bool) => if (!y3) = true then (some false) else (wEqPSortS_L0 p0 p1 (IntKind.wrap .i64 (x5 + 1)))) else (some true)
  partial_fixpoint
def wEqPSortS (p0 : (List GPSort)) (p1 : (List GPSort)) : Option Bool :=
  if (!decide ((p0.length : Int) = (p1.length : Int))) = true then (some false) else (wEqPSortS_L0 p0 p1 0)
  partial_fixpoint
def wEqPExprSS_L0 (p0 : (List (List GPExpr))) (p1 : (List (List GPExpr))) (x5 : Int) : Option Bool :=
  if (decide (x5 < (p0.length : Int))) = true then ((idx p0 x5) >>= fun (y1 : (List GPExpr)) => (idx p1 x5) >>= fun (y2 : (List GPExpr)) => (wEqPExprS y1 y2) >>= fun (y3 : Bool) => if (!y3) = true then (some false) else (wEqPExprSS_L0 p0 p1 (IntKind.wrap .i64 (x5 + 1)))) else (some true)
  partial_fixpoint
def wEqPExprSS (p0 : (List (List GPExpr))) (p1 : (List (List GPExpr))) : Option Bool :=
  if (!decide ((p0.length : Int) = (p1.length : Int))) = true then (some false) else (wEqPExprSS_L0 p0 p1 0)
  partial_fixpoint
def wEqPlan (p0 : GPlan) (p1 : GPlan) : Option Bool :=
  (wEqIntS p0.tables p1.tables) >>= fun (y1 : Bool) => if (!y1) = true then (some false) else ((wEqPExprSS p0.on_ p1.on_) >>= fun (y2 : Bool) => if (!y2) = true then (some false) else ((wEqPExprS p0.where_ p1.where_) >>= fun (y3 : Bool) => if (!y3) = true then (some false) else ((wEqPSortS p0.order p1.order) >>= fun (y4 : Bool) => if (!y4) = true then (some false) else ((wEqPExprS p0.items p1.items) >>= fun (y5 : Bool) => if (!y5) = true then (some false) else ((wEqStringS p0.names p1.names) >>= fun (y6 : Bool) => if (!y6) = true then (some false) else (if (!(p0.distinct == p1.distinct)) = true then (some false) else (if (!decide (p0.limit = p1.limit)) = true then (some false) else (some true))))))))
  partial_fixpoint
def wEqPlanS_L0 (p0 : (List GPlan)) (p1 : (List GPlan)) (x5 : Int) : Option Bool :=
  if (decide (x5 < (p0.length : Int))) = true then ((idx p0 x5) >>= fun (y1 : GPlan) => (idx p1 x5) >>= fun (y2 : GPlan) => (wEqPlan y1 y2) >>= fun (y3 : Bool) => if (!y3) = true then (some false) else (wEqPlanS_L0 p0 p1 (IntKind.wrap .i64 (x5 + 1)))) else (some true)
  partial_fixpoint
def wEqPlanS (p0 : (List GPlan)) (p1 : (List GPlan)) : Option Bool :=
  if (!decide ((p0.length : Int) = (p1.length : Int))) = true then (some false) else (wEqPlanS_L0 p0 p1 0)
  partial_fixpoint
def wEqPExprS_L0 (p0 : (List GPExpr)) (p1 : (List GPExpr)) (x5 : Int) : Option Bool :=
  if (decide (x5 < (p0.length : Int))) = true then ((idx p0 x5) >>= fun (y1 : GPExpr) => (idx p1 x5) >>= fun (y2 : GPExpr) => (wEqPExpr y1 y2) >>= fun (y3 : Bool) => if (!y3) = true then (some false) else (wEqPExprS_L0 p0 p1 (IntKind.wrap .i64 (x5 + 1)))) else (some true)
  partial_fixpoint
def wEqPExprS (p0 : (List GPExpr)) (p1 : (List GPExpr)) : Option Bool :=
  if (!decide ((p0.length : Int) = (p1.length : Int))) = true then (some false) else (wEqPExprS_L0 p0 p1 0)
  partial_fixpoint
def wEqPExpr (p0 : GPExpr) (p1 : GPExpr) : Option Bool :=
  if (!decide (p0.kind = p1.kind)) = true then (some false) else (if (!decide (p0.op = p1.op)) = true then (some false) else (if (!(p0.not_ == p1.not_)) = true then (some false) else ((wEqValue p0.value p1.value) >>= fun (y1 : Bool) => if (!y1) = true then (some false) else (if (!decide (p0.up = p1.up)) = true then (some false) else (if (!decide (p0.at_ = p1.at_)) = true then (some false) else ((wEqPExprS p0.kids p1.kids) >>= fun (y2 : Bool) => if (!y2) = true then (some false) else ((wEqPlanS p0.sub p1.sub) >>= fun (y3 : Bool) => if (!y3) = true then (some false) else (some true))))))))
  partial_fixpoint
end
def wSzIntS (p0 : (List Int)) (p1 : Int) : Option Int :=
  if (decide ((IntKind.wrap .i64 (p1 - (p0.length : Int))) < 0)) = true then (some (-1)) else (some (IntKind.wrap .i64 (p1 - (p0.length : Int))))
def wSzStringS_L0 (p0 : (List (List UInt8))) (x1 : Int) (x5 : Int) : Option Int :=
  if (decide (x5 < (p0.length : Int))) = true then ((idx p0 x5) >>= fun (y1 : (List UInt8)) => if (decide ((IntKind.wrap .i64 (x1 - (y1.length : Int))) < 0)) = true then (some (-1)) else (wSzStringS_L0 p0 (IntKind.wrap .i64 (x1 - (y1.length : Int))) (IntKind.wrap .i64 (x5 + 1)))) else (some x1)
  partial_fixpoint
def wSzStringS (p0 : (List (List UInt8))) (p1 : Int) : Option Int :=
  if (decide ((IntKind.wrap .i64 (p1 - (p0.length : Int))) < 0)) = true then (some (-1)) else (wSzStringS_L0 p0 (IntKind.wrap .i64 (p1 - (p0.length : Int))) 0)
def wSzValue (p0 : GValue) (p1 : Int) : Option Int :=
  if (decide ((IntKind.wrap .i64 (p1 - (p0.text.length : Int))) < 0)) = true then (some (-1)) else (some (IntKind.wrap .i64 (p1 - (p0.text.length : Int))))
mutual
def wSzPSort (p0 : GPSort) (p1 : Int) : Option Int :=
  (wSzPExpr p0.expr p1) >>= fun (y1 : Int) => if (decide (y1 < 0)) = true then (some (-1)) else (some y1)
  partial_fixpoint
def wSzPSortS_L0 (p0 : (List GPSort)) (x1 : Int) (x5 : Int) : Option Int :=
  if (decide (x5 < (p0.length : Int))) = true then ((idx p0 x5) >>= fun (y1 : GPSort) => (wSzPSort y1 x1) >>= fun (y2 : Int) => if (decide (y2 < 0)) = true then (some (-1)) else (wSzPSortS_L0 p0 y2 (IntKind.wrap .i64 (x5 + 1)))) else (some x1)
  partial_fixpoint
def wSzPSortS (p0 : (List GPSort)) (p1 : Int) : Option Int :=
  if (decide ((IntKind.wrap .i64 (p1 - (p0.length : Int))) < 0)) = true then (some (-1)) else (wSzPSortS_L0 p0 (IntKind.wrap .i64 (p1 - (p0.length : Int))) 0)
  partial_fixpoint
def wSzPExprSS_L0 (p0 : (List (List GPExpr))) (x1 : Int) (x5 : Int) : Option Int :=
  if (decide (x5 < (p0.length : Int))) = true then ((idx p0 x5) >>= fun (y1 : (List GPExpr)) => (wSzPExprS y1 x1) >>= fun (y2 : Int) => if (decide (y2 < 0)) = true then (some (-1)) else (wSzPExprSS_L0 p0 y2 (IntKind.wrap .i64 (x5 + 1)))) else (some x1)
  partial_fixpoint
def wSzPExprSS (p0 : (List (List GPExpr))) (p1 : Int) : Option Int :=
  if (decide ((IntKind.wrap .i64 (p1 - (p0.length : Int))) < 0)) = true then (some (-1)) else (wSzPExprSS_L0 p0 (IntKind.wrap .i64 (p1 - (p0.length : Int))) 0)
  partial_fixpoint
def wSzPlan (p0 : GPlan) (p1 : Int) : Option Int :=
  (wSzIntS p0.tables p1) >>= fun (y1 : Int) => if (decide (y1 < 0)) = true then (some (-1)) else ((wSzPExprSS p0.on_ y1) >>= fun (y2 : Int) => if (decide (y2 < 0)) = true then (some (-1)) else ((wSzPExprS p0.where_ y2) >>= fun (y3 : Int) => if (decide (y3 < 0)) = true then (some (-1)) else ((wSzPSortS p0.order y3) >>= fun (y4 : Int) => if (decide (y4 < 0)) = true then (some (-1)) else ((wSzPExprS p0.items y4) >>= fun (y5 : Int) => if (decide (y5 < 0)) = true then (some (-1)) else ((wSzStringS p0.names y5) >>= fun (y6 : Int) => if (decide (y6 < 0)) = true then (some (-1)) else (some y6))))))
  partial_fixpoint
def wSzPlanS_L0 (p0 : (List GPlan)) (x1 : Int) (x5 : Int) : Option Int :=
  if (decide (x5 < (p0.length : Int))) = true then ((idx p0 x5) >>= fun (y1 : GPlan) => (wSzPlan y1 x1) >>= fun (y2 : Int) => if (decide (y2 < 0)) = true then (some (-1)) else (wSzPlanS_L0 p0 y2 (IntKind.wrap .i64 (x5 + 1)))) else (some x1)
  partial_fixpoint
def wSzPlanS (p0 : (List GPlan)) (p1 : Int) : Option Int :=
  if (decide ((IntKind.wrap .i64 (p1 - (p0.length : Int))) < 0)) = true then (some (-1)) else (wSzPlanS_L0 p0 (IntKind.wrap .i64 (p1 - (p0.length : Int))) 0)
  partial_fixpoint
def wSzPExprS_L0 (p0 : (List GPExpr)) (x1 : Int) (x5 : Int) : Option Int :=
  if (decide (x5 < (p0.length : Int))) = true then ((idx p0 x5) >>= fun (y1 : GPExpr) => (wSzPExpr y1 x1) >>= fun (y2 : Int) => if (decide (y2 < 0)) = true then (some (-1)) else (wSzPExprS_L0 p0 y2 (IntKind.wrap .i64 (x5 + 1)))) else (some x1)
  partial_fixpoint
def wSzPExprS (p0 : (List GPExpr)) (p1 : Int) : Option Int :=
  if (decide ((IntKind.wrap .i64 (p1 - (p0.length : Int))) < 0)) = true then (some (-1)) else (wSzPExprS_L0 p0 (IntKind.wrap .i64 (p1 - (p0.length : Int))) 0)
  partial_fixpoint
def wSzPExpr (p0 : GPExpr) (p1 : Int) : Option Int :=
  (wSzValue p0.value p1) >>= fun (y1 : Int) => if (decide (y1 < 0)) = true then (some (-1)) else ((wSzPExprS p0.kids y1) >>= fun (y2 : Int) => if (decide (y2 < 0)) = true then (some (-1)) else ((wSzPlanS p0.sub y2) >>= fun (y3 : Int) => if (decide (y3 < 0)) = true then (some (-1)) else (some y3)))
  partial_fixpoint
end
def wToIntS_L0 (p0 : (List Int)) (x4 : Int) (b7_0 : (List Int)) : Option (List Int) :=
  if (decide (x4 < (p0.length : Int))) = true then ((idx p0 x4) >>= fun (y2 : Int) => (idx b7_0 x4) >>= fun (y3 : Int) => (setG b7_0 x4 y2) >>= fun (y4 : (List Int)) => wToIntS_L0 p0 (IntKind.wrap .i64 (x4 + 1)) y4) else (some b7_0)
  partial_fixpoint
def wToIntS (p0 : (List Int)) : Option (List Int) :=
  (mkG 8 (p0.length : Int) (0 : Int)) >>= fun (y1 : (List Int)) => wToIntS_L0 p0 0 y1
def wToStringS_L0 (p0 : (List (List UInt8))) (x4 : Int) (b7_0 : (List (List UInt8))) : Option (List (List UInt8)) :=
  if (decide (x4 < (p0.length : Int))) = true then ((idx p0 x4) >>= fun (y2 : (List UInt8)) => (idx b7_0 x4) >>= fun (y3 : (List UInt8)) => (setG b7_0 x4 y2) >>= fun (y4 : (List (List UInt8))) => wToStringS_L0 p0 (IntKind.wrap .i64 (x4 + 1)) y4) else (some b7_0)
  partial_fixpoint
def wToStringS (p0 : (List (List UInt8))) : Option (List (List UInt8)) :=
  (mkG 16 (p0.length : Int) ([] : (List UInt8))) >>= fun (y1 : (List (List UInt8))) => wToStringS_L0 p0 0 y1
def wToValue (p0 : GValue) : Option GValue :=
  some p0
mutual
def wToPSort (p0 : GPSort) : Option GPSort :=
  (wToPExpr p0.expr) >>= fun (y1 : GPExpr) => some (GPSort.mk y1 p0.desc)
  partial_fixpoint
def wToPSortS_L0 (p0 : (List GPSort)) (x4 : Int) (b7_0 : (List GPSort)) : Option (List GPSort) :=
  if (decide (x4 < (p0.length : Int))) = true then ((idx p0 x4) >>= fun (y2 : GPSort) => (wToPSort y2) >>= fun (y3 : GPSort) => (idx b7_0 x4) >>= fun (y4 : GPSort) => (setG b7_0 x4 y3) >>= fun (y5 : (List GPSort)) => wToPSortS_L0 p0 (IntKind.wrap .i64 (x4 + 1)) y5) else (some b7_0)
  partial_fixpoint
def wToPSortS (p0 : (List GPSort)) : Option (List GPSort) :=
  (mkG 128 (p0.length : Int) ((GPSort.mk (GPExpr.mk 0 0 false (GValue.mk 0 0 []) 0 0 ([] : List GPExpr) ([] : List GPlan)) false) : GPSort)) >>= fun (y1 : (List GPSort)) => wToPSortS_L0 p0 0 y1
  partial_fixpoint
def wToPExprSS_L0 (p0 : (List (List GPExpr))) (x4 : Int) (b7_0 : (List (List GPExpr))) : Option (List (List GPExpr)) :=
  if (decide (x4 < (p0.length : Int))) = true then ((idx p0 x4) >>= fun (y2 : (List GPExpr)) => (wToPExprS y2) >>= fun (y3 : (List GPExpr)) => (idx b7_0 x4) >>= fun (y4 : (List GPExpr)) => (setG b7_0 x4 y3) >>= fun (y5 : (List (List GPExpr))) => wToPExprSS_L0 p0 (IntKind.wrap .i64 (x4 + 1)) y5) else (some b7_0)
  partial_fixpoint
def wToPExprSS (p0 : (List (List GPExpr))) : Option (List (List GPExpr)) :=
  (mkG 24 (p0.length : Int) (([] : List GPExpr) : (List GPExpr))) >>= fun (y1 : (List (List GPExpr))) => wToPExprSS_L0 p0 0 y1
  partial_fixpoint
def wToPlan (p0 : GPlan) : Option GPlan :=
  (wToIntS p0.tables) >>= fun (y1 : (List Int)) => (wToPExprSS p0.on_) >>= fun (y2 : (List (List GPExpr))) => (wToPExprS p0.where_) >>= fun (y3 : (List GPExpr)) => (wToPSortS p0.order) >>= fun (y4 : (List GPSort)) => (wToPExprS p0.items) >>= fun (y5 : (List GPExpr)) => (wToStringS p0.names) >>= fun (y6 : (List (List UInt8))) => some (GPlan.mk y1 y2 y3 y4 y5 y6 p0.distinct p0.limit)
  partial_fixpoint
def wToPlanS_L0 (p0 : (List GPlan)) (x4 : Int) (b7_0 : (List GPlan)) : Option (List GPlan) :=
  if (decide (x4 < (p0.length : Int))) = true then ((idx p0 x4) >>= fun (y2 : GPlan) => (wToPlan y2) >>= fun (y3 : GPlan) => (idx b7_0 x4) >>= fun (y4 : GPlan) => (setG b7_0 x4 y3) >>= fun (y5 : (List GPlan)) => wToPlanS_L0 p0 (IntKind.wrap .i64 (x4 + 1)) y5) else (some b7_0)
  partial_fixpoint
def wToPlanS (p0 : (List GPlan)) : Option (List GPlan) :=
  (mkG 160 (p0.length : Int) ((GPlan.mk ([] : List Int) ([] : List (List GPExpr)) ([] : List GPExpr) ([] : List GPSort) ([] : List GPExpr) ([] : List (List UInt8)) false 0) : GPlan)) >>= fun (y1 : (List GPlan)) => wToPlanS_L0 p0 0 y1
  partial_fixpoint
def wToPExprS_L0 (p0 : (List GPExpr)) (x4 : Int) (b7_0 : (List GPExpr)) : Option (List GPExpr) :=
  if (decide (x4 < (p0.length : Int))) = true then ((idx p0 x4) >>= fun (y2 : GPExpr) => (wToPExpr y2) >>= fun (y3 : GPExpr) => (idx b7_0 x4) >>= fun (y4 : GPExpr) => (setG b7_0 x4 y3) >>= fun (y5 : (List GPExpr)) => wToPExprS_L0 p0 (IntKind.wrap .i64 (x4 + 1)) y5) else (some b7_0)
  partial_fixpoint
def wToPExprS (p0 : (List GPExpr)) : Option (List GPExpr) :=
  (mkG 120 (p0.length : Int) ((GPExpr.mk 0 0 false (GValue.mk 0 0 []) 0 0 ([] : List GPExpr) ([] : List GPlan)) : GPExpr)) >>= fun (y1 : (List GPExpr)) => wToPExprS_L0 p0 0 y1
  partial_fixpoint
def wToPExpr (p0 : GPExpr) : Option GPExpr :=
  (wToValue p0.value) >>= fun (y1 : GValue) => (wToPExprS p0.kids) >>= fun (y2 : (List GPExpr)) => (wToPlanS p0.sub) >>= fun (y3 : (List GPlan)) => some (GPExpr.mk p0.kind p0.op p0.not_ y1 p0.up p0.at_ y2 y3)
  partial_fixpoint
end
def wFnExactPutPExpr (p0 : GPExpr) : Option Bool :=
  (wSzPExpr p0 1048576) >>= fun (y1 : Int) => if (decide (y1 < 0)) = true then (some true) else ((wToPExpr p0) >>= fun (y2 : GPExpr) => (sPutPExpr y2) >>= fun (y3 : (List UInt8)) => (wToPExpr p0) >>= fun (y4 : GPExpr) => (iPutPExpr y4) >>= fun (y5 : (List UInt8)) => if (!decide (y5 = y3)) = true then (some false) else ((wToPExpr p0) >>= fun (y6 : GPExpr) => (wEqPExpr y4 y6) >>= fun (y7 : Bool) => if (!y7) = true then (some false) else (some true)))
end Go.Ab
