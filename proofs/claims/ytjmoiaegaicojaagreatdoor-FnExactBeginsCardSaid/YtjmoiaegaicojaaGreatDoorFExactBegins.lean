/- The functions of the program, as Lean functions (printed by a program). -/
import Derived.Test.YtjmoiaegaicojaaGreatDoorAbF1
namespace Go.Ab
open Go
structure GToken where
  kind : Int
  text : (List UInt8)
  at_ : Int
instance : Inhabited GToken := ⟨(GToken.mk 0 [] 0)⟩
structure GValue where
  kind : Int
  num : Int
  text : (List UInt8)
instance : Inhabited GValue := ⟨(GValue.mk 0 0 [])⟩
mutual
structure GExpr where
  kind : Int
  op : Int
  not_ : Bool
  value : GValue
  qual : (List UInt8)
  name : (List UInt8)
  kids : (List GExpr)
  sub : (List GQuery)
structure GItem where
  star : Bool
  qual : (List UInt8)
  expr : GExpr
  as_ : (List UInt8)
structure GQuery where
  distinct : Bool
  items : (List GItem)
  from_ : (List GSource)
  where_ : (List GExpr)
  order : (List GSortKey)
  limit : Int
structure GSortKey where
  expr : GExpr
  desc : Bool
structure GSource where
  table : (List UInt8)
  as_ : (List UInt8)
  on_ : (List GExpr)
end
instance : Inhabited GExpr := ⟨(GExpr.mk 0 0 false (GValue.mk 0 0 []) [] [] [] [])⟩
instance : Inhabited GItem := ⟨(GItem.mk false [] (GExpr.mk 0 0 false (GValue.mk 0 0 []) [] [] [] []) [])⟩
instance : Inhabited GQuery := ⟨(GQuery.mk false [] [] [] [] 0)⟩
instance : Inhabited GSortKey := ⟨(GSortKey.mk (GExpr.mk 0 0 false (GValue.mk 0 0 []) [] [] [] []) false)⟩
instance : Inhabited GSource := ⟨(GSource.mk [] [] [])⟩
structure GL12In where
  t : (List GToken)
  at_ : Int
  bad : Bool
instance : Inhabited GL12In := ⟨(GL12In.mk [] 0 false)⟩
structure GParser where
  list : (List GToken)
  at_ : Int
  failed : Bool
instance : Inhabited GParser := ⟨(GParser.mk [] 0 false)⟩
def okGToken (x : GToken) : Prop := okI x.kind ∧ okS x.text ∧ okI x.at_
def okGValue (x : GValue) : Prop := okI x.kind ∧ okI x.num ∧ okS x.text
mutual
def okGExpr : GExpr → Prop
  | ⟨a0, a1, a2, a3, a4, a5, a6, a7⟩ => okI a0 ∧ okI a1 ∧ okB a2 ∧ okGValue a3 ∧ okS a4 ∧ okS a5 ∧ (a6.length ≤ 9223372036854775807 ∧ okLGExpr a6) ∧ (a7.length ≤ 9223372036854775807 ∧ okLGQuery a7)
def okGItem : GItem → Prop
  | ⟨a0, a1, a2, a3⟩ => okB a0 ∧ okS a1 ∧ okGExpr a2 ∧ okS a3
def okGQuery : GQuery → Prop
  | ⟨a0, a1, a2, a3, a4, a5⟩ => okB a0 ∧ (a1.length ≤ 9223372036854775807 ∧ okLGItem a1) ∧ (a2.length ≤ 9223372036854775807 ∧ okLGSource a2) ∧ (a3.length ≤ 9223372036854775807 ∧ okLGExpr a3) ∧ (a4.length ≤ 9223372036854775807 ∧ okLGSortKey a4) ∧ okI a5
def okGSortKey : GSortKey → Prop
  | ⟨a0, a1⟩ => okGExpr a0 ∧ okB a1
def okGSource : GSource → Prop
  | ⟨a0, a1, a2⟩ => okS a0 ∧ okS a1 ∧ (a2.length ≤ 9223372036854775807 ∧ okLGExpr a2)
def okLGExpr : List GExpr → Prop
  | [] => True
  | x :: l => okGExpr x ∧ okLGExpr l
def okLGItem : List GItem → Prop
  | [] => True
  | x :: l => okGItem x ∧ okLGItem l
def okLGQuery : List GQuery → Prop
  | [] => True
  | x :: l => okGQuery x ∧ okLGQuery l
def okLGSortKey : List GSortKey → Prop
  | [] => True
  | x :: l => okGSortKey x ∧ okLGSortKey l
def okLGSource : List GSource → Prop
  | [] => True
  | x :: l => okGSource x ∧ okLGSource l
end
def okGL12In (x : GL12In) : Prop := (okL okGToken) x.t ∧ okI x.at_ ∧ okB x.bad
def okGParser (x : GParser) : Prop := (okL okGToken) x.list ∧ okI x.at_ ∧ okB x.failed
def iParser_end (p0 : GParser) : Option Int :=
  (some (if p0.failed = true then true else (decide (p0.at_ < (p0.list.length : Int))))) >>= fun (y1 : Bool) => if y1 = true then (some p0.at_) else (some (-1))
def iBin (p0 : Int) (p1 : GExpr) (p2 : GExpr) : Option GExpr :=
  some (GExpr.mk 4 p0 false (GValue.mk 0 0 []) [] [] ([p1, p2] : List GExpr) ([] : List GQuery))
def iBoolValue_J0 (b3_1 : Int) : Option GValue :=
  some (GValue.mk 3 b3_1 [])
def iBoolValue (p0 : Bool) : Option GValue :=
  if p0 = true then (iBoolValue_J0 1) else (iBoolValue_J0 0)
def iIntValue (p0 : Int) : Option GValue :=
  some (GValue.mk 1 p0 [])
def iLit (p0 : GValue) : Option GExpr :=
  some (GExpr.mk 1 0 false p0 [] [] ([] : List GExpr) ([] : List GQuery))
def iFold_J2 (x3 : (List Int)) : Option (List UInt8) :=
  (ofBytes x3) >>= fun (y3 : (List UInt8)) => some y3
mutual
def iFold_J1 (p0 : (List UInt8)) (x10 : Int) (b60050000_0 : (List Int)) : Option (List UInt8) :=
  iFold_L0 p0 (IntKind.wrap .i64 (x10 + 1)) b60050000_0
  partial_fixpoint
def iFold_L0 (p0 : (List UInt8)) (x10 : Int) (b60015000_0 : (List Int)) : Option (List UInt8) :=
  if (decide (x10 < ((toBytes p0).length : Int))) = true then ((idx b60015000_0 x10) >>= fun (y1 : Int) => (some (if (decide (97 ≤ y1)) = true then (decide (y1 ≤ 122)) else false)) >>= fun (y2 : Bool) => if y2 = true then (iFold_J1 p0 x10 (b60015000_0.set (x10).toNat (IntKind.wrap .u8 ((IntKind.wrap .u8 (y1 - 97)) + 65)))) else (iFold_J1 p0 x10 (b60015000_0.set (x10).toNat y1))) else (iFold_J2 b60015000_0)
  partial_fixpoint
end
def iFold (p0 : (List UInt8)) : Option (List UInt8) :=
  iFold_L0 p0 0 (toBytes p0)
def gSlices_Index_Sstring_string_L0 (p0 : (List (List UInt8))) (p1 : (List UInt8)) (x8 : Int) : Option Int :=
  if (decide (x8 < (p0.length : Int))) = true then ((idx p0 x8) >>= fun (y1 : (List UInt8)) => if (decide (p1 = y1)) = true then (some x8) else (gSlices_Index_Sstring_string_L0 p0 p1 (IntKind.wrap .i64 (x8 + 1)))) else (some (-1))
  partial_fixpoint
def gSlices_Index_Sstring_string (p0 : (List (List UInt8))) (p1 : (List UInt8)) : Option Int :=
  gSlices_Index_Sstring_string_L0 p0 p1 0
def gStrings_Split (p0 : (List UInt8)) (p1 : (List UInt8)) : Option (List (List UInt8)) :=
  splitG p0 p1
def iKeywords : Option (List (List UInt8)) :=
  (gStrings_Split [83, 69, 76, 69, 67, 84, 32, 68, 73, 83, 84, 73, 78, 67, 84, 32, 70, 82, 79, 77, 32, 74, 79, 73, 78, 32, 79, 78, 32, 87, 72, 69, 82, 69, 32, 79, 82, 68, 69, 82, 32, 66, 89, 32, 65, 83, 67, 32, 68, 69, 83, 67, 32, 76, 73, 77, 73, 84, 32, 65, 83, 32, 65, 78, 68, 32, 79, 82, 32, 78, 79, 84, 32, 73, 83, 32, 73, 78, 32, 66, 69, 84, 87, 69, 69, 78, 32, 69, 88, 73, 83, 84, 83, 32, 78, 85, 76, 76, 32, 84, 82, 85, 69, 32, 70, 65, 76, 83, 69, 32, 73, 78, 83, 69, 82, 84, 32, 73, 78, 84, 79, 32, 86, 65, 76, 85, 69, 83, 32, 85, 80, 68, 65, 84, 69, 32, 83, 69, 84, 32, 68, 69, 76, 69, 84, 69] [32]) >>= fun (y1 : (List (List UInt8))) => some y1
def iKeyOf (p0 : (List UInt8)) : Option Int :=
  (iKeywords) >>= fun (y1 : (List (List UInt8))) => (iFold p0) >>= fun (y2 : (List UInt8)) => (gSlices_Index_Sstring_string y1 y2) >>= fun (y3 : Int) => some (IntKind.wrap .i64 (y3 + 1))
def iNameOk (p0 : (List UInt8)) : Option Bool :=
  (some (if (decide (1 ≤ (p0.length : Int))) = true then (decide ((p0.length : Int) ≤ 20)) else false)) >>= fun (y1 : Bool) => some y1
def iNumber (p0 : (List UInt8)) : Option (Int × Bool) :=
  numO p0
def gSlices_Contains_Sstring_string (p0 : (List (List UInt8))) (p1 : (List UInt8)) : Option Bool :=
  (gSlices_Index_Sstring_string p0 p1) >>= fun (y1 : Int) => some (decide (0 ≤ y1))
def iSigns : Option (List (List UInt8)) :=
  some ([[40], [41], [44], [46], [42], [43], [45], [47], [37], [61], [60, 62], [60], [60, 61], [62], [62, 61], [124, 124]] : List (List UInt8))
def iSignOk (p0 : (List UInt8)) : Option Bool :=
  (iSigns) >>= fun (y1 : (List (List UInt8))) => (gSlices_Contains_Sstring_string y1 p0) >>= fun (y2 : Bool) => some y2
def iTokenOk (p0 : GToken) : Option Bool :=
  if (decide (p0.kind = 1)) = true then ((iKeyOf p0.text) >>= fun (y1 : Int) => (if (true && ((!decide (y1 = 0)) == true)) = true then iFold p0.text else some default) >>= fun (y2 : (List UInt8)) => (some (if (!decide (y1 = 0)) = true then (decide (y2 = p0.text)) else false)) >>= fun (y3 : Bool) => some y3) else (if (decide (p0.kind = 2)) = true then ((iNameOk p0.text) >>= fun (y4 : Bool) => some y4) else (if (decide (p0.kind = 3)) = true then ((iNumber p0.text) >>= fun (y5 : Int × Bool) => some y5.2) else (if (decide (p0.kind = 4)) = true then (some (decide ((p0.text.length : Int) ≤ 40))) else (if (decide (p0.kind = 5)) = true then ((iSignOk p0.text) >>= fun (y6 : Bool) => some y6) else (some false)))))
def iParser_isKind (p0 : GParser) (p1 : Int) : Option Bool :=
  (some (if (!p0.failed) = true then (decide (p0.at_ < (p0.list.length : Int))) else false)) >>= fun (y1 : Bool) => (if (true && (y1 == true)) = true then idx p0.list p0.at_ else some default) >>= fun (y2 : GToken) => (some (if y1 = true then (decide (y2.kind = p1)) else false)) >>= fun (y3 : Bool) => (if (true && (y3 == true)) = true then idx p0.list p0.at_ else some default) >>= fun (y4 : GToken) => (if (true && (y3 == true)) = true then iTokenOk y4 else some default) >>= fun (y5 : Bool) => (some (if y3 = true then y5 else false)) >>= fun (y6 : Bool) => some y6
def iParser_mustKind (p0 : GParser) (p1 : Int) : Option ((List UInt8) × GParser) :=
  (iParser_isKind p0 p1) >>= fun (y1 : Bool) => if (!y1) = true then (some ([], (GParser.mk p0.list p0.at_ true))) else ((idx p0.list (IntKind.wrap .i64 ((IntKind.wrap .i64 (p0.at_ + 1)) - 1))) >>= fun (y2 : GToken) => some (y2.text, (GParser.mk p0.list (IntKind.wrap .i64 (p0.at_ + 1)) p0.failed)))
def iParser_mustNumber (p0 : GParser) : Option (Int × GParser) :=
  (iParser_mustKind p0 3) >>= fun (y1 : (List UInt8) × GParser) => (iNumber y1.1) >>= fun (y2 : Int × Bool) => some (y2.1, y1.2)
def iParser_is (p0 : GParser) (p1 : Int) (p2 : Int) (p3 : (List UInt8)) : Option Bool :=
  (some (if (!p0.failed) = true then (decide ((IntKind.wrap .i64 (p0.at_ + p1)) < (p0.list.length : Int))) else false)) >>= fun (y1 : Bool) => (if (true && (y1 == true)) = true then idx p0.list (IntKind.wrap .i64 (p0.at_ + p1)) else some default) >>= fun (y2 : GToken) => (some (if y1 = true then (decide (y2.kind = p2)) else false)) >>= fun (y3 : Bool) => (if (true && (y3 == true)) = true then idx p0.list (IntKind.wrap .i64 (p0.at_ + p1)) else some default) >>= fun (y4 : GToken) => (some (if y3 = true then (decide (y4.text = p3)) else false)) >>= fun (y5 : Bool) => some y5
def iParser_isSign (p0 : GParser) (p1 : (List UInt8)) : Option Bool :=
  (iParser_is p0 0 5 p1) >>= fun (y1 : Bool) => some y1
def iParser_takeSign_J0 (y1 : Bool) (p0 : GParser) (b1000000_1 : Int) : Option (Bool × GParser) :=
  some (y1, (GParser.mk p0.list b1000000_1 p0.failed))
def iParser_takeSign (p0 : GParser) (p1 : (List UInt8)) : Option (Bool × GParser) :=
  (iParser_isSign p0 p1) >>= fun (y1 : Bool) => if y1 = true then (iParser_takeSign_J0 y1 p0 (IntKind.wrap .i64 (p0.at_ + 1))) else (iParser_takeSign_J0 y1 p0 p0.at_)
def iParser_mustSign (p0 : GParser) (p1 : (List UInt8)) : Option GParser :=
  (iParser_takeSign p0 p1) >>= fun (y1 : Bool × GParser) => if (!y1.1) = true then (some (GParser.mk y1.2.list y1.2.at_ true)) else (some y1.2)
def iParser_isKey (p0 : GParser) (p1 : (List UInt8)) : Option Bool :=
  (iParser_is p0 0 1 p1) >>= fun (y1 : Bool) => some y1
def iParser_takeKey_J0 (y1 : Bool) (p0 : GParser) (b1000000_1 : Int) : Option (Bool × GParser) :=
  some (y1, (GParser.mk p0.list b1000000_1 p0.failed))
def iParser_takeKey (p0 : GParser) (p1 : (List UInt8)) : Option (Bool × GParser) :=
  (iParser_isKey p0 p1) >>= fun (y1 : Bool) => if y1 = true then (iParser_takeKey_J0 y1 p0 (IntKind.wrap .i64 (p0.at_ + 1))) else (iParser_takeKey_J0 y1 p0 p0.at_)
def iParser_as (p0 : GParser) : Option ((List UInt8) × GParser) :=
  (iParser_takeKey p0 [65, 83]) >>= fun (y1 : Bool × GParser) => if y1.1 = true then ((iParser_mustKind y1.2 2) >>= fun (y2 : (List UInt8) × GParser) => some (y2.1, y2.2)) else (some ([], y1.2))
def iParser_mustKey (p0 : GParser) (p1 : (List UInt8)) : Option GParser :=
  (iParser_takeKey p0 p1) >>= fun (y1 : Bool × GParser) => if (!y1.1) = true then (some (GParser.mk y1.2.list y1.2.at_ true)) else (some y1.2)
def iParser_key_J0 (y1 : GExpr × GParser) (b3_10 : Bool) (b1000000_0 : (List GToken)) (b1000000_1 : Int) (b1000000_2 : Bool) : Option (GSortKey × GParser) :=
  some ((GSortKey.mk y1.1 b3_10), (GParser.mk b1000000_0 b1000000_1 b1000000_2))
def iParser_query_J3 (y2 : Bool × GParser) (b3_1 : (List GItem)) (y8 : (List GSource) × GParser) (y9 : (List GExpr) × GParser) (b3_4_16 : (List GSortKey)) (b3_5 : Int) (b1000000_0_25 : (List GToken)) (b1000000_1_26 : Int) (b1000000_2_27 : Bool) : Option (GQuery × GParser) :=
  some ((GQuery.mk y2.1 b3_1 y8.1 y9.1 b3_4_16 b3_5), (GParser.mk b1000000_0_25 b1000000_1_26 b1000000_2_27))
def iParser_query_J2 (y2 : Bool × GParser) (b3_1 : (List GItem)) (y8 : (List GSource) × GParser) (y9 : (List GExpr) × GParser) (b3_4_16 : (List GSortKey)) (b1000000_0_17 : (List GToken)) (b1000000_1_18 : Int) (b1000000_2_19 : Bool) : Option (GQuery × GParser) :=
  (iParser_takeKey (GParser.mk b1000000_0_17 b1000000_1_18 b1000000_2_19) [76, 73, 77, 73, 84]) >>= fun (y23 : Bool × GParser) => if y23.1 = true then ((iParser_mustNumber y23.2) >>= fun (y24 : Int × GParser) => iParser_query_J3 y2 b3_1 y8 y9 b3_4_16 y24.1 y24.2.list y24.2.at_ y24.2.failed) else (iParser_query_J3 y2 b3_1 y8 y9 b3_4_16 (-1) y23.2.list y23.2.at_ y23.2.failed)
def iParser_source (p0 : GParser) : Option (GSource × GParser) :=
  (iParser_mustKind p0 2) >>= fun (y1 : (List UInt8) × GParser) => (iParser_as y1.2) >>= fun (y2 : (List UInt8) × GParser) => some ((GSource.mk y1.1 y2.1 ([] : List GExpr)), y2.2)
def iTextValue (p0 : (List UInt8)) : Option GValue :=
  some (GValue.mk 2 0 p0)
def iOpText (p0 : Int) : Option (List UInt8) :=
  (some (if (decide (p0 < 1)) = true then true else (decide (16 < p0)))) >>= fun (y1 : Bool) => if y1 = true then (some []) else ((idx ([[79, 82], [65, 78, 68], [61], [60, 62], [60], [60, 61], [62], [62, 61], [124, 124], [43], [45], [42], [47], [37], [78, 79, 84], [45]] : List (List UInt8)) (IntKind.wrap .i64 (p0 - 1))) >>= fun (y2 : (List UInt8)) => some y2)
mutual
def iParser_takeOp_J1 (y1 : Int) (p1 : (List Int)) (x10 : Int) (p0 : GParser) (x7 : Int) : Option (Int × GParser) :=
  (iOpText y1) >>= fun (y3 : (List UInt8)) => (iParser_is p0 0 x7 y3) >>= fun (y4 : Bool) => if y4 = true then (some (y1, (GParser.mk p0.list (IntKind.wrap .i64 (p0.at_ + 1)) p0.failed))) else (iParser_takeOp_L0 p1 p0 (IntKind.wrap .i64 (x10 + 1)))
  partial_fixpoint
def iParser_takeOp_L0 (p1 : (List Int)) (p0 : GParser) (x10 : Int) : Option (Int × GParser) :=
  if (decide (x10 < (p1.length : Int))) = true then ((idx p1 x10) >>= fun (y1 : Int) => (some (if (decide (y1 = 1)) = true then true else (decide (y1 = 2)))) >>= fun (y2 : Bool) => if y2 = true then (iParser_takeOp_J1 y1 p1 x10 p0 1) else (iParser_takeOp_J1 y1 p1 x10 p0 5)) else (some (0, p0))
  partial_fixpoint
end
def iParser_takeOp (p0 : GParser) (p1 : (List Int)) : Option (Int × GParser) :=
  iParser_takeOp_L0 p1 p0 0
def iParser_in_J0 (p2 : Bool) (b7_0 : Int) (b7_8 : (List GExpr)) (b7_9 : (List GQuery)) (b1000000_0 : (List GToken)) (b1000000_1 : Int) (b1000000_2 : Bool) : Option (GExpr × GParser) :=
  (iParser_mustSign (GParser.mk b1000000_0 b1000000_1 b1000000_2) [41]) >>= fun (y6 : GParser) => some ((GExpr.mk b7_0 0 p2 (GValue.mk 0 0 []) [] [] b7_8 b7_9), y6)
mutual
def iParser_chain_iParser_and_L0 (p2 : (List Int)) (b7_0 : Int) (b7_1 : Int) (b7_2 : Bool) (b7_3 : Int) (b7_4 : Int) (kb7_5 : ((List UInt8) × ((List UInt8) × ((List UInt8) × ((List GExpr) × ((List GQuery) × ((List GToken) × (Int × Bool)))))))) : Option (GExpr × GParser) :=
  (iParser_takeOp (GParser.mk kb7_5.2.2.2.2.2.1 kb7_5.2.2.2.2.2.2.1 kb7_5.2.2.2.2.2.2.2) p2) >>= fun (y2 : Int × GParser) => if (decide (y2.1 = 0)) = true then (some ((GExpr.mk b7_0 b7_1 b7_2 (GValue.mk b7_3 b7_4 kb7_5.1) kb7_5.2.1 kb7_5.2.2.1 kb7_5.2.2.2.1 kb7_5.2.2.2.2.1), y2.2)) else ((iParser_and y2.2) >>= fun (y3 : GExpr × GParser) => (iBin y2.1 (GExpr.mk b7_0 b7_1 b7_2 (GValue.mk b7_3 b7_4 kb7_5.1) kb7_5.2.1 kb7_5.2.2.1 kb7_5.2.2.2.1 kb7_5.2.2.2.2.1) y3.1) >>= fun (y4 : GExpr) => iParser_chain_iParser_and_L0 p2 y4.kind y4.op y4.not_ y4.value.kind y4.value.num (y4.value.text, (y4.qual, (y4.name, (y4.kids, (y4.sub, (y3.2.list, (y3.2.at_, y3.2.failed))))))))
  partial_fixpoint
def iParser_ors_L0 (x3 : (List GExpr)) (b1000000_0 : (List GToken)) (b1000000_1 : Int) (b1000000_2 : Bool) : Option ((List GExpr) × GParser) :=
  (iParser_takeSign (GParser.mk b1000000_0 b1000000_1 b1000000_2) [44]) >>= fun (y2 : Bool × GParser) => if y2.1 = true then ((iParser_or y2.2) >>= fun (y3 : GExpr × GParser) => (appG 136 x3 ([y3.1] : List GExpr)) >>= fun (y4 : List GExpr) => iParser_ors_L0 y4 y3.2.list y3.2.at_ y3.2.failed) else (some (x3, y2.2))
  partial_fixpoint
def iParser_ors (p0 : GParser) : Option ((List GExpr) × GParser) :=
  (iParser_or p0) >>= fun (y1 : GExpr × GParser) => iParser_ors_L0 ([y1.1] : List GExpr) y1.2.list y1.2.at_ y1.2.failed
  partial_fixpoint
def iParser_in (p0 : GParser) (p1 : GExpr) (p2 : Bool) : Option (GExpr × GParser) :=
  (iParser_mustSign p0 [40]) >>= fun (y1 : GParser) => (iParser_isKey y1 [83, 69, 76, 69, 67, 84]) >>= fun (y2 : Bool) => if y2 = true then ((iParser_query y1) >>= fun (y3 : GQuery × GParser) => iParser_in_J0 p2 8 ([p1] : List GExpr) ([y3.1] : List GQuery) y3.2.list y3.2.at_ y3.2.failed) else ((iParser_ors y1) >>= fun (y4 : (List GExpr) × GParser) => (appG 136 ([p1] : List GExpr) y4.1) >>= fun (y5 : List GExpr) => iParser_in_J0 p2 7 y5 ([] : List GQuery) y4.2.list y4.2.at_ y4.2.failed)
  partial_fixpoint
def iParser_where (p0 : GParser) : Option ((List GExpr) × GParser) :=
  (iParser_takeKey p0 [87, 72, 69, 82, 69]) >>= fun (y1 : Bool × GParser) => if y1.1 = true then ((iParser_or y1.2) >>= fun (y2 : GExpr × GParser) => some (([y2.1] : List GExpr), y2.2)) else (some (([] : List GExpr), y1.2))
  partial_fixpoint
def iParser_sources_L0 (x3 : (List GSource)) (b1000000_0 : (List GToken)) (b1000000_1 : Int) (b1000000_2 : Bool) : Option ((List GSource) × GParser) :=
  (iParser_takeSign (GParser.mk b1000000_0 b1000000_1 b1000000_2) [44]) >>= fun (y2 : Bool × GParser) => if y2.1 = true then ((iParser_source y2.2) >>= fun (y3 : GSource × GParser) => (appG 56 x3 ([y3.1] : List GSource)) >>= fun (y4 : List GSource) => iParser_sources_L0 y4 y3.2.list y3.2.at_ y3.2.failed) else ((iParser_takeKey y2.2 [74, 79, 73, 78]) >>= fun (y5 : Bool × GParser) => if y5.1 = true then ((iParser_source y5.2) >>= fun (y6 : GSource × GParser) => (iParser_mustKey y6.2 [79, 78]) >>= fun (y7 : GParser) => (iParser_or y7) >>= fun (y8 : GExpr × GParser) => (appG 56 x3 ([(GSource.mk y6.1.table y6.1.as_ ([y8.1] : List GExpr))] : List GSource)) >>= fun (y9 : List GSource) => iParser_sources_L0 y9 y8.2.list y8.2.at_ y8.2.failed) else (some (x3, y5.2)))
  partial_fixpoint
def iParser_sources (p0 : GParser) : Option ((List GSource) × GParser) :=
  (iParser_source p0) >>= fun (y1 : GSource × GParser) => iParser_sources_L0 ([y1.1] : List GSource) y1.2.list y1.2.at_ y1.2.failed
  partial_fixpoint
def iParser_query_L1 (y2 : Bool × GParser) (b3_1 : (List GItem)) (y8 : (List GSource) × GParser) (y9 : (List GExpr) × GParser) (b3_4 : (List GSortKey)) (b1000000_0_13 : (List GToken)) (kb1000000_1_14 : (Int × Bool)) : Option (GQuery × GParser) :=
  (iParser_takeSign (GParser.mk b1000000_0_13 kb1000000_1_14.1 kb1000000_1_14.2) [44]) >>= fun (y20 : Bool × GParser) => if y20.1 = true then ((iParser_key y20.2) >>= fun (y21 : GSortKey × GParser) => (appG 144 b3_4 ([y21.1] : List GSortKey)) >>= fun (y22 : List GSortKey) => iParser_query_L1 y2 b3_1 y8 y9 y22 y21.2.list (y21.2.at_, y21.2.failed)) else (iParser_query_J2 y2 b3_1 y8 y9 b3_4 y20.2.list y20.2.at_ y20.2.failed)
  partial_fixpoint
def iParser_key (p0 : GParser) : Option (GSortKey × GParser) :=
  (iParser_or p0) >>= fun (y1 : GExpr × GParser) => (iParser_takeKey y1.2 [65, 83, 67]) >>= fun (y2 : Bool × GParser) => if (!y2.1) = true then ((iParser_takeKey y2.2 [68, 69, 83, 67]) >>= fun (y3 : Bool × GParser) => iParser_key_J0 y1 y3.1 y3.2.list y3.2.at_ y3.2.failed) else (iParser_key_J0 y1 false y2.2.list y2.2.at_ y2.2.failed)
  partial_fixpoint
def iParser_query_L0 (y2 : Bool × GParser) (b3_1 : (List GItem)) (b1000000_0 : (List GToken)) (b1000000_1 : Int) (b1000000_2 : Bool) : Option (GQuery × GParser) :=
  (iParser_takeSign (GParser.mk b1000000_0 b1000000_1 b1000000_2) [44]) >>= fun (y4 : Bool × GParser) => if y4.1 = true then ((iParser_item y4.2) >>= fun (y5 : GItem × GParser) => (appG 176 b3_1 ([y5.1] : List GItem)) >>= fun (y6 : List GItem) => iParser_query_L0 y2 y6 y5.2.list y5.2.at_ y5.2.failed) else ((iParser_mustKey y4.2 [70, 82, 79, 77]) >>= fun (y7 : GParser) => (iParser_sources y7) >>= fun (y8 : (List GSource) × GParser) => (iParser_where y8.2) >>= fun (y9 : (List GExpr) × GParser) => (iParser_takeKey y9.2 [79, 82, 68, 69, 82]) >>= fun (y10 : Bool × GParser) => if y10.1 = true then ((iParser_mustKey y10.2 [66, 89]) >>= fun (y11 : GParser) => (iParser_key y11) >>= fun (y12 : GSortKey × GParser) => iParser_query_L1 y2 b3_1 y8 y9 ([y12.1] : List GSortKey) y12.2.list (y12.2.at_, y12.2.failed)) else (iParser_query_J2 y2 b3_1 y8 y9 ([] : List GSortKey) y10.2.list y10.2.at_ y10.2.failed))
  partial_fixpoint
def iParser_item (p0 : GParser) : Option (GItem × GParser) :=
  (iParser_takeSign p0 [42]) >>= fun (y1 : Bool × GParser) => if y1.1 = true then (some ((GItem.mk true [] (GExpr.mk 0 0 false (GValue.mk 0 0 []) [] [] ([] : List GExpr) ([] : List GQuery)) []), y1.2)) else ((iParser_isKind y1.2 2) >>= fun (y2 : Bool) => (if (true && (y2 == true)) = true then iParser_is y1.2 1 5 [46] else some (default : Bool)) >>= fun (y3 : Bool) => (some (if y2 = true then y3 else false)) >>= fun (y4 : Bool) => (if (true && (y4 == true)) = true then iParser_is y1.2 2 5 [42] else some (default : Bool)) >>= fun (y5 : Bool) => (some (if y4 = true then y5 else false)) >>= fun (y6 : Bool) => if y6 = true then ((iParser_mustKind y1.2 2) >>= fun (y7 : (List UInt8) × GParser) => some ((GItem.mk true y7.1 (GExpr.mk 0 0 false (GValue.mk 0 0 []) [] [] ([] : List GExpr) ([] : List GQuery)) []), (GParser.mk y7.2.list (IntKind.wrap .i64 (y7.2.at_ + 2)) y7.2.failed))) else ((iParser_or y1.2) >>= fun (y8 : GExpr × GParser) => (iParser_as y8.2) >>= fun (y9 : (List UInt8) × GParser) => some ((GItem.mk false [] y8.1 y9.1), y9.2)))
  partial_fixpoint
def iParser_query (p0 : GParser) : Option (GQuery × GParser) :=
  (iParser_mustKey p0 [83, 69, 76, 69, 67, 84]) >>= fun (y1 : GParser) => (iParser_takeKey y1 [68, 73, 83, 84, 73, 78, 67, 84]) >>= fun (y2 : Bool × GParser) => (iParser_item y2.2) >>= fun (y3 : GItem × GParser) => iParser_query_L0 y2 ([y3.1] : List GItem) y3.2.list y3.2.at_ y3.2.failed
  partial_fixpoint
def iParser_prim (p0 : GParser) : Option (GExpr × GParser) :=
  (iParser_isKind p0 3) >>= fun (y1 : Bool) => if y1 = true then ((iParser_mustNumber p0) >>= fun (y2 : Int × GParser) => (iIntValue y2.1) >>= fun (y3 : GValue) => (iLit y3) >>= fun (y4 : GExpr) => some (y4, y2.2)) else ((iParser_isKind p0 4) >>= fun (y5 : Bool) => if y5 = true then ((iParser_mustKind p0 4) >>= fun (y6 : (List UInt8) × GParser) => (iTextValue y6.1) >>= fun (y7 : GValue) => (iLit y7) >>= fun (y8 : GExpr) => some (y8, y6.2)) else ((iParser_takeKey p0 [78, 85, 76, 76]) >>= fun (y9 : Bool × GParser) => if y9.1 = true then ((iLit (GValue.mk 0 0 [])) >>= fun (y10 : GExpr) => some (y10, y9.2)) else ((iParser_takeKey y9.2 [84, 82, 85, 69]) >>= fun (y11 : Bool × GParser) => if y11.1 = true then ((iBoolValue true) >>= fun (y12 : GValue) => (iLit y12) >>= fun (y13 : GExpr) => some (y13, y11.2)) else ((iParser_takeKey y11.2 [70, 65, 76, 83, 69]) >>= fun (y14 : Bool × GParser) => if y14.1 = true then ((iBoolValue false) >>= fun (y15 : GValue) => (iLit y15) >>= fun (y16 : GExpr) => some (y16, y14.2)) else ((iParser_isKind y14.2 2) >>= fun (y17 : Bool) => if y17 = true then ((iParser_mustKind y14.2 2) >>= fun (y18 : (List UInt8) × GParser) => (iParser_takeSign y18.2 [46]) >>= fun (y19 : Bool × GParser) => if y19.1 = true then ((iParser_mustKind y19.2 2) >>= fun (y20 : (List UInt8) × GParser) => some ((GExpr.mk 2 0 false (GValue.mk 0 0 []) y18.1 y20.1 ([] : List GExpr) ([] : List GQuery)), y20.2)) else (some ((GExpr.mk 2 0 false (GValue.mk 0 0 []) [] y18.1 ([] : List GExpr) ([] : List GQuery)), y19.2))) else ((iParser_takeSign y14.2 [40]) >>= fun (y21 : Bool × GParser) => if y21.1 = true then ((iParser_or y21.2) >>= fun (y22 : GExpr × GParser) => (iParser_mustSign y22.2 [41]) >>= fun (y23 : GParser) => some (y22.1, y23)) else ((iParser_takeKey y21.2 [69, 88, 73, 83, 84, 83]) >>= fun (y24 : Bool × GParser) => if y24.1 = true then ((iParser_mustSign y24.2 [40]) >>= fun (y25 : GParser) => (iParser_query y25) >>= fun (y26 : GQuery × GParser) => (iParser_mustSign y26.2 [41]) >>= fun (y27 : GParser) => some ((GExpr.mk 9 0 false (GValue.mk 0 0 []) [] [] ([] : List GExpr) ([y26.1] : List GQuery)), y27)) else (some ((GExpr.mk 0 0 false (GValue.mk 0 0 []) [] [] ([] : List GExpr) ([] : List GQuery)), (GParser.mk y24.2.list y24.2.at_ true))))))))))
  partial_fixpoint
def iParser_neg (p0 : GParser) : Option (GExpr × GParser) :=
  (iParser_takeSign p0 [45]) >>= fun (y1 : Bool × GParser) => if y1.1 = true then ((iParser_neg y1.2) >>= fun (y2 : GExpr × GParser) => some ((GExpr.mk 3 16 false (GValue.mk 0 0 []) [] [] ([y2.1] : List GExpr) ([] : List GQuery)), y2.2)) else ((iParser_prim y1.2) >>= fun (y3 : GExpr × GParser) => some (y3.1, y3.2))
  partial_fixpoint
def iParser_chain_iParser_neg_L0 (p2 : (List Int)) (b7_0 : Int) (b7_1 : Int) (b7_2 : Bool) (b7_3 : Int) (b7_4 : Int) (kb7_5 : ((List UInt8) × ((List UInt8) × ((List UInt8) × ((List GExpr) × ((List GQuery) × ((List GToken) × (Int × Bool)))))))) : Option (GExpr × GParser) :=
  (iParser_takeOp (GParser.mk kb7_5.2.2.2.2.2.1 kb7_5.2.2.2.2.2.2.1 kb7_5.2.2.2.2.2.2.2) p2) >>= fun (y2 : Int × GParser) => if (decide (y2.1 = 0)) = true then (some ((GExpr.mk b7_0 b7_1 b7_2 (GValue.mk b7_3 b7_4 kb7_5.1) kb7_5.2.1 kb7_5.2.2.1 kb7_5.2.2.2.1 kb7_5.2.2.2.2.1), y2.2)) else ((iParser_neg y2.2) >>= fun (y3 : GExpr × GParser) => (iBin y2.1 (GExpr.mk b7_0 b7_1 b7_2 (GValue.mk b7_3 b7_4 kb7_5.1) kb7_5.2.1 kb7_5.2.2.1 kb7_5.2.2.2.1 kb7_5.2.2.2.2.1) y3.1) >>= fun (y4 : GExpr) => iParser_chain_iParser_neg_L0 p2 y4.kind y4.op y4.not_ y4.value.kind y4.value.num (y4.value.text, (y4.qual, (y4.name, (y4.kids, (y4.sub, (y3.2.list, (y3.2.at_, y3.2.failed))))))))
  partial_fixpoint
def iParser_chain_iParser_neg (p0 : GParser) (p2 : (List Int)) : Option (GExpr × GParser) :=
  (iParser_neg p0) >>= fun (y1 : GExpr × GParser) => iParser_chain_iParser_neg_L0 p2 y1.1.kind y1.1.op y1.1.not_ y1.1.value.kind y1.1.value.num (y1.1.value.text, (y1.1.qual, (y1.1.name, (y1.1.kids, (y1.1.sub, (y1.2.list, (y1.2.at_, y1.2.failed)))))))
  partial_fixpoint
def iParser_prod (p0 : GParser) : Option (GExpr × GParser) :=
  (iParser_chain_iParser_neg p0 ([12, 13, 14] : List Int)) >>= fun (y1 : GExpr × GParser) => some (y1.1, y1.2)
  partial_fixpoint
def iParser_chain_iParser_prod_L0 (p2 : (List Int)) (b7_0 : Int) (b7_1 : Int) (b7_2 : Bool) (b7_3 : Int) (b7_4 : Int) (kb7_5 : ((List UInt8) × ((List UInt8) × ((List UInt8) × ((List GExpr) × ((List GQuery) × ((List GToken) × (Int × Bool)))))))) : Option (GExpr × GParser) :=
  (iParser_takeOp (GParser.mk kb7_5.2.2.2.2.2.1 kb7_5.2.2.2.2.2.2.1 kb7_5.2.2.2.2.2.2.2) p2) >>= fun (y2 : Int × GParser) => if (decide (y2.1 = 0)) = true then (some ((GExpr.mk b7_0 b7_1 b7_2 (GValue.mk b7_3 b7_4 kb7_5.1) kb7_5.2.1 kb7_5.2.2.1 kb7_5.2.2.2.1 kb7_5.2.2.2.2.1), y2.2)) else ((iParser_prod y2.2) >>= fun (y3 : GExpr × GParser) => (iBin y2.1 (GExpr.mk b7_0 b7_1 b7_2 (GValue.mk b7_3 b7_4 kb7_5.1) kb7_5.2.1 kb7_5.2.2.1 kb7_5.2.2.2.1 kb7_5.2.2.2.2.1) y3.1) >>= fun (y4 : GExpr) => iParser_chain_iParser_prod_L0 p2 y4.kind y4.op y4.not_ y4.value.kind y4.value.num (y4.value.text, (y4.qual, (y4.name, (y4.kids, (y4.sub, (y3.2.list, (y3.2.at_, y3.2.failed))))))))
  partial_fixpoint
def iParser_chain_iParser_prod (p0 : GParser) (p2 : (List Int)) : Option (GExpr × GParser) :=
  (iParser_prod p0) >>= fun (y1 : GExpr × GParser) => iParser_chain_iParser_prod_L0 p2 y1.1.kind y1.1.op y1.1.not_ y1.1.value.kind y1.1.value.num (y1.1.value.text, (y1.1.qual, (y1.1.name, (y1.1.kids, (y1.1.sub, (y1.2.list, (y1.2.at_, y1.2.failed)))))))
  partial_fixpoint
def iParser_sum (p0 : GParser) : Option (GExpr × GParser) :=
  (iParser_chain_iParser_prod p0 ([10, 11] : List Int)) >>= fun (y1 : GExpr × GParser) => some (y1.1, y1.2)
  partial_fixpoint
def iParser_chain_iParser_sum_L0 (p2 : (List Int)) (b7_0 : Int) (b7_1 : Int) (b7_2 : Bool) (b7_3 : Int) (b7_4 : Int) (kb7_5 : ((List UInt8) × ((List UInt8) × ((List UInt8) × ((List GExpr) × ((List GQuery) × ((List GToken) × (Int × Bool)))))))) : Option (GExpr × GParser) :=
  (iParser_takeOp (GParser.mk kb7_5.2.2.2.2.2.1 kb7_5.2.2.2.2.2.2.1 kb7_5.2.2.2.2.2.2.2) p2) >>= fun (y2 : Int × GParser) => if (decide (y2.1 = 0)) = true then (some ((GExpr.mk b7_0 b7_1 b7_2 (GValue.mk b7_3 b7_4 kb7_5.1) kb7_5.2.1 kb7_5.2.2.1 kb7_5.2.2.2.1 kb7_5.2.2.2.2.1), y2.2)) else ((iParser_sum y2.2) >>= fun (y3 : GExpr × GParser) => (iBin y2.1 (GExpr.mk b7_0 b7_1 b7_2 (GValue.mk b7_3 b7_4 kb7_5.1) kb7_5.2.1 kb7_5.2.2.1 kb7_5.2.2.2.1 kb7_5.2.2.2.2.1) y3.1) >>= fun (y4 : GExpr) => iParser_chain_iParser_sum_L0 p2 y4.kind y4.op y4.not_ y4.value.kind y4.value.num (y4.value.text, (y4.qual, (y4.name, (y4.kids, (y4.sub, (y3.2.list, (y3.2.at_, y3.2.failed))))))))
  partial_fixpoint
def iParser_chain_iParser_sum (p0 : GParser) (p2 : (List Int)) : Option (GExpr × GParser) :=
  (iParser_sum p0) >>= fun (y1 : GExpr × GParser) => iParser_chain_iParser_sum_L0 p2 y1.1.kind y1.1.op y1.1.not_ y1.1.value.kind y1.1.value.num (y1.1.value.text, (y1.1.qual, (y1.1.name, (y1.1.kids, (y1.1.sub, (y1.2.list, (y1.2.at_, y1.2.failed)))))))
  partial_fixpoint
def iParser_cat (p0 : GParser) : Option (GExpr × GParser) :=
  (iParser_chain_iParser_sum p0 ([9] : List Int)) >>= fun (y1 : GExpr × GParser) => some (y1.1, y1.2)
  partial_fixpoint
def iParser_cmp (p0 : GParser) : Option (GExpr × GParser) :=
  (iParser_cat p0) >>= fun (y1 : GExpr × GParser) => (iParser_takeOp y1.2 ([3, 4, 5, 6, 7, 8] : List Int)) >>= fun (y2 : Int × GParser) => if (!decide (y2.1 = 0)) = true then ((iParser_cat y2.2) >>= fun (y3 : GExpr × GParser) => (iBin y2.1 y1.1 y3.1) >>= fun (y4 : GExpr) => some (y4, y3.2)) else ((iParser_takeKey y2.2 [73, 83]) >>= fun (y5 : Bool × GParser) => if y5.1 = true then ((iParser_takeKey y5.2 [78, 79, 84]) >>= fun (y6 : Bool × GParser) => (iParser_mustKey y6.2 [78, 85, 76, 76]) >>= fun (y7 : GParser) => some ((GExpr.mk 5 0 y6.1 (GValue.mk 0 0 []) [] [] ([y1.1] : List GExpr) ([] : List GQuery)), y7)) else ((iParser_takeKey y5.2 [78, 79, 84]) >>= fun (y8 : Bool × GParser) => (iParser_takeKey y8.2 [66, 69, 84, 87, 69, 69, 78]) >>= fun (y9 : Bool × GParser) => if y9.1 = true then ((iParser_cat y9.2) >>= fun (y10 : GExpr × GParser) => (iParser_mustKey y10.2 [65, 78, 68]) >>= fun (y11 : GParser) => (iParser_cat y11) >>= fun (y12 : GExpr × GParser) => some ((GExpr.mk 6 0 y8.1 (GValue.mk 0 0 []) [] [] ([y1.1, y10.1, y12.1] : List GExpr) ([] : List GQuery)), y12.2)) else ((iParser_takeKey y9.2 [73, 78]) >>= fun (y13 : Bool × GParser) => if y13.1 = true then ((iParser_in y13.2 y1.1 y8.1) >>= fun (y14 : GExpr × GParser) => some (y14.1, y14.2)) else ((some (if y13.2.failed = true then true else y8.1)) >>= fun (y15 : Bool) => some (y1.1, (GParser.mk y13.2.list y13.2.at_ y15))))))
  partial_fixpoint
def iParser_not (p0 : GParser) : Option (GExpr × GParser) :=
  (iParser_takeKey p0 [78, 79, 84]) >>= fun (y1 : Bool × GParser) => if y1.1 = true then ((iParser_not y1.2) >>= fun (y2 : GExpr × GParser) => some ((GExpr.mk 3 15 false (GValue.mk 0 0 []) [] [] ([y2.1] : List GExpr) ([] : List GQuery)), y2.2)) else ((iParser_cmp y1.2) >>= fun (y3 : GExpr × GParser) => some (y3.1, y3.2))
  partial_fixpoint
def iParser_chain_iParser_not_L0 (p2 : (List Int)) (b7_0 : Int) (b7_1 : Int) (b7_2 : Bool) (b7_3 : Int) (b7_4 : Int) (kb7_5 : ((List UInt8) × ((List UInt8) × ((List UInt8) × ((List GExpr) × ((List GQuery) × ((List GToken) × (Int × Bool)))))))) : Option (GExpr × GParser) :=
  (iParser_takeOp (GParser.mk kb7_5.2.2.2.2.2.1 kb7_5.2.2.2.2.2.2.1 kb7_5.2.2.2.2.2.2.2) p2) >>= fun (y2 : Int × GParser) => if (decide (y2.1 = 0)) = true then (some ((GExpr.mk b7_0 b7_1 b7_2 (GValue.mk b7_3 b7_4 kb7_5.1) kb7_5.2.1 kb7_5.2.2.1 kb7_5.2.2.2.1 kb7_5.2.2.2.2.1), y2.2)) else ((iParser_not y2.2) >>= fun (y3 : GExpr × GParser) => (iBin y2.1 (GExpr.mk b7_0 b7_1 b7_2 (GValue.mk b7_3 b7_4 kb7_5.1) kb7_5.2.1 kb7_5.2.2.1 kb7_5.2.2.2.1 kb7_5.2.2.2.2.1) y3.1) >>= fun (y4 : GExpr) => iParser_chain_iParser_not_L0 p2 y4.kind y4.op y4.not_ y4.value.kind y4.value.num (y4.value.text, (y4.qual, (y4.name, (y4.kids, (y4.sub, (y3.2.list, (y3.2.at_, y3.2.failed))))))))
  partial_fixpoint
def iParser_chain_iParser_not (p0 : GParser) (p2 : (List Int)) : Option (GExpr × GParser) :=
  (iParser_not p0) >>= fun (y1 : GExpr × GParser) => iParser_chain_iParser_not_L0 p2 y1.1.kind y1.1.op y1.1.not_ y1.1.value.kind y1.1.value.num (y1.1.value.text, (y1.1.qual, (y1.1.name, (y1.1.kids, (y1.1.sub, (y1.2.list, (y1.2.at_, y1.2.failed)))))))
  partial_fixpoint
def iParser_and (p0 : GParser) : Option (GExpr × GParser) :=
  (iParser_chain_iParser_not p0 ([2] : List Int)) >>= fun (y1 : GExpr × GParser) => some (y1.1, y1.2)
  partial_fixpoint
def iParser_chain_iParser_and (p0 : GParser) (p2 : (List Int)) : Option (GExpr × GParser) :=
  (iParser_and p0) >>= fun (y1 : GExpr × GParser) => iParser_chain_iParser_and_L0 p2 y1.1.kind y1.1.op y1.1.not_ y1.1.value.kind y1.1.value.num (y1.1.value.text, (y1.1.qual, (y1.1.name, (y1.1.kids, (y1.1.sub, (y1.2.list, (y1.2.at_, y1.2.failed)))))))
  partial_fixpoint
def iParser_or (p0 : GParser) : Option (GExpr × GParser) :=
  (iParser_chain_iParser_and p0 ([1] : List Int)) >>= fun (y1 : GExpr × GParser) => some (y1.1, y1.2)
  partial_fixpoint
end
def iTakeExpr (p0 : (List GToken)) : Option (GExpr × Int) :=
  (iParser_or (GParser.mk p0 0 false)) >>= fun (y1 : GExpr × GParser) => (iParser_end y1.2) >>= fun (y2 : Int) => if (decide (0 ≤ y2)) = true then (some ((GExpr.mk 0 0 false (GValue.mk 0 0 []) [] [] ([] : List GExpr) ([] : List GQuery)), y2)) else (some (y1.1, (-1)))
def iBegins (p0 : (List GToken)) : Option Bool :=
  (iTakeExpr p0) >>= fun (y1 : GExpr × Int) => (some (if (decide (y1.2 < 0)) = true then true else (decide (y1.2 = (p0.length : Int))))) >>= fun (y2 : Bool) => some y2
def sL12End (p0 : GL12In) : Option Int :=
  (some (if (!p0.bad) = true then (decide (p0.at_ = (p0.t.length : Int))) else false)) >>= fun (y1 : Bool) => if y1 = true then (some (-1)) else (some p0.at_)
def sL12Cmp_J0 (y1 : GExpr × GL12In) (y15 : Bool × GL12In) (b1000000_2 : Bool) : Option (GExpr × GL12In) :=
  some (y1.1, (GL12In.mk y15.2.t y15.2.at_ b1000000_2))
def sL1In (p0 : Int) (p1 : Int) (p2 : Int) : Option Bool :=
  (some (if (decide (p1 ≤ p0)) = true then (decide (p0 ≤ p2)) else false)) >>= fun (y1 : Bool) => some y1
def sL2Words : Option (List (List UInt8)) :=
  some ([[], [83, 69, 76, 69, 67, 84], [68, 73, 83, 84, 73, 78, 67, 84], [70, 82, 79, 77], [74, 79, 73, 78], [79, 78], [87, 72, 69, 82, 69], [79, 82, 68, 69, 82], [66, 89], [65, 83, 67], [68, 69, 83, 67], [76, 73, 77, 73, 84], [65, 83], [65, 78, 68], [79, 82], [78, 79, 84], [73, 83], [73, 78], [66, 69, 84, 87, 69, 69, 78], [69, 88, 73, 83, 84, 83], [78, 85, 76, 76], [84, 82, 85, 69], [70, 65, 76, 83, 69], [73, 78, 83, 69, 82, 84], [73, 78, 84, 79], [86, 65, 76, 85, 69, 83], [85, 80, 68, 65, 84, 69], [83, 69, 84], [68, 69, 76, 69, 84, 69]] : List (List UInt8))
def sKeyText (p0 : Int) : Option (List UInt8) :=
  (sL1In p0 1 28) >>= fun (y1 : Bool) => if (!y1) = true then (some []) else ((sL2Words) >>= fun (y2 : (List (List UInt8))) => (idx y2 p0) >>= fun (y3 : (List UInt8)) => some y3)
def sL12Next (p0 : GL12In) (p1 : Int) : Option GToken :=
  (some (if p0.bad = true then true else (decide ((p0.t.length : Int) ≤ (IntKind.wrap .i64 (p0.at_ + p1)))))) >>= fun (y1 : Bool) => if y1 = true then (some (GToken.mk 0 [] 0)) else ((idx p0.t (IntKind.wrap .i64 (p0.at_ + p1))) >>= fun (y2 : GToken) => some y2)
def sL12Key (p0 : GL12In) (p1 : Int) : Option Bool :=
  (sL12Next p0 0) >>= fun (y1 : GToken) => (if (true && ((decide (y1.kind = 1)) == true)) = true then sKeyText p1 else some default) >>= fun (y2 : (List UInt8)) => (some (if (decide (y1.kind = 1)) = true then (decide (y1.text = y2)) else false)) >>= fun (y3 : Bool) => some y3
def sL12Maybe_J0 (y1 : Bool) (b1000000_0 : (List GToken)) (b1000000_1 : Int) (b1000000_2 : Bool) : Option (Bool × GL12In) :=
  some (y1, (GL12In.mk b1000000_0 b1000000_1 b1000000_2))
def sL12Step (p0 : GL12In) (p1 : Bool) : Option GL12In :=
  (some (if (!p1) = true then true else p0.bad)) >>= fun (y1 : Bool) => if y1 = true then (some (GL12In.mk p0.t p0.at_ true)) else (some (GL12In.mk p0.t (IntKind.wrap .i64 (p0.at_ + 1)) p0.bad))
def sL12Maybe (p0 : GL12In) (p1 : Int) : Option (Bool × GL12In) :=
  (sL12Key p0 p1) >>= fun (y1 : Bool) => if y1 = true then ((sL12Step p0 true) >>= fun (y2 : GL12In) => sL12Maybe_J0 y1 y2.t y2.at_ y2.bad) else (sL12Maybe_J0 y1 p0.t p0.at_ p0.bad)
def sL10Sign (p0 : (List UInt8)) : Option GToken :=
  some (GToken.mk 5 p0 0)
def sOpText (p0 : Int) : Option (List UInt8) :=
  (sL1In p0 1 16) >>= fun (y1 : Bool) => if (!y1) = true then (some []) else ((idx ([[], [79, 82], [65, 78, 68], [61], [60, 62], [60], [60, 61], [62], [62, 61], [124, 124], [43], [45], [42], [47], [37], [78, 79, 84], [45]] : List (List UInt8)) p0) >>= fun (y2 : (List UInt8)) => some y2)
def sL10Op (p0 : Int) : Option GToken :=
  (some (if (decide (p0 = 1)) = true then true else (decide (p0 = 2)))) >>= fun (y1 : Bool) => (some (if y1 = true then true else (decide (p0 = 15)))) >>= fun (y2 : Bool) => if y2 = true then ((sOpText p0) >>= fun (y3 : (List UInt8)) => some (GToken.mk 1 y3 0)) else ((sOpText p0) >>= fun (y4 : (List UInt8)) => (sL10Sign y4) >>= fun (y5 : GToken) => some y5)
def sLevelOf_J2 : Option Int :=
  some 0
def sLevelOf_J1 (p0 : GExpr) (x9 : Bool) : Option Int :=
  if x9 = true then (some 4) else (if (decide (p0.kind = 3)) = true then (if (decide (p0.op = 15)) = true then (some 3) else (if (decide (p0.op = 16)) = true then (some 8) else (sLevelOf_J2))) else (if (decide (p0.kind = 4)) = true then ((sL1In p0.op 1 14) >>= fun (y1 : Bool) => if y1 = true then ((idx ([0, 1, 2, 4, 4, 4, 4, 4, 4, 5, 6, 6, 7, 7, 7] : List Int) p0.op) >>= fun (y2 : Int) => some y2) else (sLevelOf_J2)) else (sLevelOf_J2)))
def sLevelOf_J0 (p0 : GExpr) (x5 : Bool) : Option Int :=
  if x5 = true then (some 9) else (if (decide (p0.kind = 5)) = true then (sLevelOf_J1 p0 (decide (p0.kind = 5))) else (if (decide (p0.kind = 6)) = true then (sLevelOf_J1 p0 (decide (p0.kind = 6))) else (if (decide (p0.kind = 7)) = true then (sLevelOf_J1 p0 (decide (p0.kind = 7))) else (sLevelOf_J1 p0 (decide (p0.kind = 8))))))
def sLevelOf (p0 : GExpr) : Option Int :=
  if (decide (p0.kind = 1)) = true then (sLevelOf_J0 p0 (decide (p0.kind = 1))) else (if (decide (p0.kind = 2)) = true then (sLevelOf_J0 p0 (decide (p0.kind = 2))) else (sLevelOf_J0 p0 (decide (p0.kind = 9))))
mutual
def sL12Op_J1 (p1 : Int) (x5 : Int) (p0 : GL12In) : Option Int :=
  sL12Op_L0 p1 p0 (IntKind.wrap .i64 (x5 + 1))
  partial_fixpoint
def sL12Op_L0 (p1 : Int) (p0 : GL12In) (x5 : Int) : Option Int :=
  if (decide (x5 ≤ 14)) = true then ((sLevelOf (GExpr.mk 4 x5 false (GValue.mk 0 0 []) [] [] ([] : List GExpr) ([] : List GQuery))) >>= fun (y1 : Int) => if (!decide (y1 = p1)) = true then (sL12Op_J1 p1 x5 p0) else ((sL10Op x5) >>= fun (y2 : GToken) => (sL12Next p0 0) >>= fun (y3 : GToken) => (some (if (decide (y3.kind = y2.kind)) = true then (decide (y3.text = y2.text)) else false)) >>= fun (y4 : Bool) => if y4 = true then (some x5) else (sL12Op_J1 p1 x5 p0))) else (some 0)
  partial_fixpoint
end
def sL12Op (p0 : GL12In) (p1 : Int) : Option Int :=
  sL12Op_L0 p1 p0 1
def sFold_J2 (x3 : (List Int)) : Option (List UInt8) :=
  (ofBytes x3) >>= fun (y3 : (List UInt8)) => some y3
mutual
def sFold_J1 (x4 : Int) (b60052000_0 : (List Int)) : Option (List UInt8) :=
  sFold_L0 (IntKind.wrap .i64 (x4 + 1)) b60052000_0
  partial_fixpoint
def sFold_L0 (x4 : Int) (b60013000_0 : (List Int)) : Option (List UInt8) :=
  if (decide (x4 < (b60013000_0.length : Int))) = true then ((idx b60013000_0 x4) >>= fun (y1 : Int) => (some (if (decide (97 ≤ y1)) = true then (decide (y1 ≤ 122)) else false)) >>= fun (y2 : Bool) => if y2 = true then (sFold_J1 x4 (b60013000_0.set (x4).toNat (IntKind.wrap .u8 (y1 - 32)))) else (sFold_J1 x4 (b60013000_0.set (x4).toNat y1))) else (sFold_J2 b60013000_0)
  partial_fixpoint
end
def sFold (p0 : (List UInt8)) : Option (List UInt8) :=
  sFold_L0 0 (toBytes p0)
def sKeyOf_L0 (y1 : (List UInt8)) (y2 : (List (List UInt8))) (x5 : Int) : Option Int :=
  if (decide (x5 < (y2.length : Int))) = true then ((idx y2 x5) >>= fun (y3 : (List UInt8)) => if (decide (y3 = y1)) = true then (some x5) else (sKeyOf_L0 y1 y2 (IntKind.wrap .i64 (x5 + 1)))) else (some 0)
  partial_fixpoint
def sKeyOf (p0 : (List UInt8)) : Option Int :=
  if (decide (8 < (p0.length : Int))) = true then (some 0) else ((sFold p0) >>= fun (y1 : (List UInt8)) => (sL2Words) >>= fun (y2 : (List (List UInt8))) => sKeyOf_L0 y1 y2 1)
def sNameOk (p0 : (List UInt8)) : Option Bool :=
  (sL1In (p0.length : Int) 1 20) >>= fun (y1 : Bool) => some y1
mutual
def sDigits_J1 (x0 : Int) (p0 : Int) (x4 : (List UInt8)) (x5 : Int) : Option (List UInt8) :=
  (ofBytes ([(IntKind.wrap .u8 (IntKind.wrap .i64 (48 + x5)))] : List Int)) >>= fun (y2 : (List UInt8)) => (catS y2 x4) >>= fun (y3 : (List UInt8)) => sDigits_L0 p0 (IntKind.wrap .i64 (Int.tdiv x0 10)) y3
  partial_fixpoint
def sDigits_L0 (p0 : Int) (x0 : Int) (x4 : (List UInt8)) : Option (List UInt8) :=
  if (!decide (x0 = 0)) = true then (if (decide ((Int.tmod x0 10) < 0)) = true then (sDigits_J1 x0 p0 x4 (IntKind.wrap .i64 (0 - (Int.tmod x0 10)))) else (sDigits_J1 x0 p0 x4 (Int.tmod x0 10))) else (if (decide (p0 < 0)) = true then ((catS [45] x4) >>= fun (y1 : (List UInt8)) => some y1) else (some x4))
  partial_fixpoint
end
def sDigits (p0 : Int) : Option (List UInt8) :=
  if (decide (p0 = 0)) = true then (some [48]) else (sDigits_L0 p0 p0 [])
def sNumber_L0 (p0 : (List UInt8)) (x4 : Int) (x5 : Int) : Option (Int × Bool) :=
  if (decide (x5 < (p0.length : Int))) = true then ((idxS p0 x5) >>= fun (y2 : Int) => (if (true && ((decide (y2 < 48)) == false)) = true then idxS p0 x5 else some default) >>= fun (y3 : Int) => (some (if (decide (y2 < 48)) = true then true else (decide (57 < y3)))) >>= fun (y4 : Bool) => if y4 = true then (some (0, false)) else ((idxS p0 x5) >>= fun (y5 : Int) => if (decide ((IntKind.wrap .i64 (Int.tdiv (IntKind.wrap .i64 (9223372036854775807 - (IntKind.wrap .i64 ((IntKind.wrap .i64 y5) - 48)))) 10)) < x4)) = true then (some (0, false)) else (sNumber_L0 p0 (IntKind.wrap .i64 ((IntKind.wrap .i64 (10 * x4)) + (IntKind.wrap .i64 ((IntKind.wrap .i64 y5) - 48)))) (IntKind.wrap .i64 (x5 + 1))))) else ((sDigits x4) >>= fun (y6 : (List UInt8)) => if (!decide (y6 = p0)) = true then (some (0, false)) else (some (x4, true)))
  partial_fixpoint
def sNumber (p0 : (List UInt8)) : Option (Int × Bool) :=
  (some (if (decide ((p0.length : Int) < 1)) = true then true else (decide (19 < (p0.length : Int))))) >>= fun (y1 : Bool) => if y1 = true then (some (0, false)) else (sNumber_L0 p0 0 0)
def sSignOk_J0 (x4 : Bool) : Option Bool :=
  if x4 = true then (some true) else (some false)
def sSignOk (p0 : (List UInt8)) : Option Bool :=
  if (decide (p0 = [40])) = true then (sSignOk_J0 (decide (p0 = [40]))) else (if (decide (p0 = [41])) = true then (sSignOk_J0 (decide (p0 = [41]))) else (if (decide (p0 = [44])) = true then (sSignOk_J0 (decide (p0 = [44]))) else (if (decide (p0 = [46])) = true then (sSignOk_J0 (decide (p0 = [46]))) else (if (decide (p0 = [42])) = true then (sSignOk_J0 (decide (p0 = [42]))) else (if (decide (p0 = [43])) = true then (sSignOk_J0 (decide (p0 = [43]))) else (if (decide (p0 = [45])) = true then (sSignOk_J0 (decide (p0 = [45]))) else (if (decide (p0 = [47])) = true then (sSignOk_J0 (decide (p0 = [47]))) else (if (decide (p0 = [37])) = true then (sSignOk_J0 (decide (p0 = [37]))) else (if (decide (p0 = [61])) = true then (sSignOk_J0 (decide (p0 = [61]))) else (if (decide (p0 = [60, 62])) = true then (sSignOk_J0 (decide (p0 = [60, 62]))) else (if (decide (p0 = [60])) = true then (sSignOk_J0 (decide (p0 = [60]))) else (if (decide (p0 = [60, 61])) = true then (sSignOk_J0 (decide (p0 = [60, 61]))) else (if (decide (p0 = [62])) = true then (sSignOk_J0 (decide (p0 = [62]))) else (if (decide (p0 = [62, 61])) = true then (sSignOk_J0 (decide (p0 = [62, 61]))) else (sSignOk_J0 (decide (p0 = [124, 124])))))))))))))))))
def sTokenOk (p0 : GToken) : Option Bool :=
  if (decide (p0.kind = 1)) = true then ((sKeyOf p0.text) >>= fun (y1 : Int) => (if (true && ((decide (0 < y1)) == true)) = true then sFold p0.text else some default) >>= fun (y2 : (List UInt8)) => (some (if (decide (0 < y1)) = true then (decide (y2 = p0.text)) else false)) >>= fun (y3 : Bool) => some y3) else (if (decide (p0.kind = 2)) = true then ((sNameOk p0.text) >>= fun (y4 : Bool) => some y4) else (if (decide (p0.kind = 3)) = true then ((sNumber p0.text) >>= fun (y5 : Int × Bool) => some y5.2) else (if (decide (p0.kind = 4)) = true then (some (decide ((p0.text.length : Int) ≤ 40))) else (if (decide (p0.kind = 5)) = true then ((sSignOk p0.text) >>= fun (y6 : Bool) => some y6) else (some false)))))
def sL12Kind (p0 : GL12In) (p1 : Int) : Option Bool :=
  (sL12Next p0 0) >>= fun (y1 : GToken) => (if (true && ((decide (y1.kind = p1)) == true)) = true then sTokenOk y1 else some default) >>= fun (y2 : Bool) => (some (if (decide (y1.kind = p1)) = true then y2 else false)) >>= fun (y3 : Bool) => some y3
def sL12Text (p0 : GL12In) (p1 : Int) : Option ((List UInt8) × GL12In) :=
  (sL12Next p0 0) >>= fun (y1 : GToken) => (sL12Kind p0 p1) >>= fun (y2 : Bool) => (sL12Step p0 y2) >>= fun (y3 : GL12In) => if y3.bad = true then (some ([], y3)) else (some (y1.text, y3))
def sL12As (p0 : GL12In) : Option ((List UInt8) × GL12In) :=
  (sL12Maybe p0 12) >>= fun (y1 : Bool × GL12In) => if y1.1 = true then ((sL12Text y1.2 2) >>= fun (y2 : (List UInt8) × GL12In) => some (y2.1, y2.2)) else (some ([], y1.2))
def sL12Sign (p0 : GL12In) (p1 : (List UInt8)) : Option Bool :=
  (sL12Next p0 0) >>= fun (y1 : GToken) => (some (if (decide (y1.kind = 5)) = true then (decide (y1.text = p1)) else false)) >>= fun (y2 : Bool) => some y2
def sL12Query_J5 (y3 : Bool × GL12In) (b3_1 : (List GItem)) (b3_2 : (List GSource)) (y29 : (List GExpr) × GL12In) (b3_4_38 : (List GSortKey)) (b3_5 : Int) (b1000000_0_50 : (List GToken)) (b1000000_1_51 : Int) (b1000000_2_52 : Bool) : Option (GQuery × GL12In) :=
  some ((GQuery.mk y3.1 b3_1 b3_2 y29.1 b3_4_38 b3_5), (GL12In.mk b1000000_0_50 b1000000_1_51 b1000000_2_52))
def sL12Query_J4 (y3 : Bool × GL12In) (b3_1 : (List GItem)) (b3_2 : (List GSource)) (y29 : (List GExpr) × GL12In) (b3_4_38 : (List GSortKey)) (b1000000_0_39 : (List GToken)) (b1000000_1_40 : Int) (b1000000_2_41 : Bool) : Option (GQuery × GL12In) :=
  (sL12Maybe (GL12In.mk b1000000_0_39 b1000000_1_40 b1000000_2_41) 11) >>= fun (y47 : Bool × GL12In) => if y47.1 = true then ((sL12Text y47.2 3) >>= fun (y48 : (List UInt8) × GL12In) => (sNumber y48.1) >>= fun (y49 : Int × Bool) => sL12Query_J5 y3 b3_1 b3_2 y29 b3_4_38 y49.1 y48.2.t y48.2.at_ y48.2.bad) else (sL12Query_J5 y3 b3_1 b3_2 y29 b3_4_38 (-1) y47.2.t y47.2.at_ y47.2.bad)
def sL12Source (p0 : GL12In) : Option (GSource × GL12In) :=
  (sL12Text p0 2) >>= fun (y1 : (List UInt8) × GL12In) => (sL12As y1.2) >>= fun (y2 : (List UInt8) × GL12In) => some ((GSource.mk y1.1 y2.1 ([] : List GExpr)), y2.2)
def sL12Expr_J1 (b5_0 : Int) (b5_1 : Int) (b5_2 : Bool) (b5_3 : Int) (b5_4 : Int) (b5_5 : (List UInt8)) (b5_6 : (List UInt8)) (b5_7 : (List UInt8)) (b5_8 : (List GExpr)) (b5_9 : (List GQuery)) (b1000000_0 : (List GToken)) (b1000000_1 : Int) (b1000000_2 : Bool) : Option (GExpr × GL12In) :=
  some ((GExpr.mk b5_0 b5_1 b5_2 (GValue.mk b5_3 b5_4 b5_5) b5_6 b5_7 b5_8 b5_9), (GL12In.mk b1000000_0 b1000000_1 b1000000_2))
def sBoolValue (p0 : Bool) : Option GValue :=
  if p0 = true then (some (GValue.mk 3 1 [])) else (some (GValue.mk 3 0 []))
def sL12Prim_J0 (b4_6 : (List UInt8)) (b4_7 : (List UInt8)) (b1000000_0 : (List GToken)) (b1000000_1 : Int) (b1000000_2 : Bool) : Option (GExpr × GL12In) :=
  some ((GExpr.mk 2 0 false (GValue.mk 0 0 []) b4_6 b4_7 ([] : List GExpr) ([] : List GQuery)), (GL12In.mk b1000000_0 b1000000_1 b1000000_2))
def sTextValue (p0 : (List UInt8)) : Option GValue :=
  some (GValue.mk 2 0 p0)
mutual
def sL12Prim (p0 : GL12In) : Option (GExpr × GL12In) :=
  (sL12Kind p0 3) >>= fun (y1 : Bool) => if y1 = true then ((sL12Text p0 3) >>= fun (y2 : (List UInt8) × GL12In) => (sNumber y2.1) >>= fun (y3 : Int × Bool) => some ((GExpr.mk 1 0 false (GValue.mk 1 y3.1 []) [] [] ([] : List GExpr) ([] : List GQuery)), y2.2)) else ((sL12Kind p0 4) >>= fun (y4 : Bool) => if y4 = true then ((sL12Text p0 4) >>= fun (y5 : (List UInt8) × GL12In) => (sTextValue y5.1) >>= fun (y6 : GValue) => some ((GExpr.mk 1 0 false y6 [] [] ([] : List GExpr) ([] : List GQuery)), y5.2)) else ((sL12Maybe p0 20) >>= fun (y7 : Bool × GL12In) => if y7.1 = true then (some ((GExpr.mk 1 0 false (GValue.mk 0 0 []) [] [] ([] : List GExpr) ([] : List GQuery)), y7.2)) else ((sL12Maybe y7.2 21) >>= fun (y8 : Bool × GL12In) => if y8.1 = true then ((sBoolValue true) >>= fun (y9 : GValue) => some ((GExpr.mk 1 0 false y9 [] [] ([] : List GExpr) ([] : List GQuery)), y8.2)) else ((sL12Maybe y8.2 22) >>= fun (y10 : Bool × GL12In) => if y10.1 = true then ((sBoolValue false) >>= fun (y11 : GValue) => some ((GExpr.mk 1 0 false y11 [] [] ([] : List GExpr) ([] : List GQuery)), y10.2)) else ((sL12Kind y10.2 2) >>= fun (y12 : Bool) => if y12 = true then ((sL12Text y10.2 2) >>= fun (y13 : (List UInt8) × GL12In) => (sL12Sign y13.2 [46]) >>= fun (y14 : Bool) => if y14 = true then ((sL12Step y13.2 true) >>= fun (y15 : GL12In) => (sL12Text y15 2) >>= fun (y16 : (List UInt8) × GL12In) => sL12Prim_J0 y13.1 y16.1 y16.2.t y16.2.at_ y16.2.bad) else (sL12Prim_J0 [] y13.1 y13.2.t y13.2.at_ y13.2.bad)) else ((sL12Maybe y10.2 19) >>= fun (y17 : Bool × GL12In) => if y17.1 = true then ((sL12Sign y17.2 [40]) >>= fun (y18 : Bool) => (sL12Step y17.2 y18) >>= fun (y19 : GL12In) => (sL12Query y19) >>= fun (y20 : GQuery × GL12In) => (sL12Sign y20.2 [41]) >>= fun (y21 : Bool) => (sL12Step y20.2 y21) >>= fun (y22 : GL12In) => some ((GExpr.mk 9 0 false (GValue.mk 0 0 []) [] [] ([] : List GExpr) ([y20.1] : List GQuery)), y22)) else ((sL12Sign y17.2 [40]) >>= fun (y23 : Bool) => (sL12Step y17.2 y23) >>= fun (y24 : GL12In) => if y24.bad = true then (some ((GExpr.mk 0 0 false (GValue.mk 0 0 []) [] [] ([] : List GExpr) ([] : List GQuery)), y24)) else ((sL12Expr y24 1) >>= fun (y25 : GExpr × GL12In) => (sL12Sign y25.2 [41]) >>= fun (y26 : Bool) => (sL12Step y25.2 y26) >>= fun (y27 : GL12In) => some (y25.1, y27)))))))))
  partial_fixpoint
def sL12Expr_L0 (p1 : Int) (b5_0 : Int) (b5_1 : Int) (b5_2 : Bool) (b5_3 : Int) (b5_4 : Int) (kb5_5 : ((List UInt8) × ((List UInt8) × ((List UInt8) × ((List GExpr) × ((List GQuery) × ((List GToken) × (Int × Bool)))))))) : Option (GExpr × GL12In) :=
  if (!kb5_5.2.2.2.2.2.2.2) = true then ((sL12Op (GL12In.mk kb5_5.2.2.2.2.2.1 kb5_5.2.2.2.2.2.2.1 kb5_5.2.2.2.2.2.2.2) p1) >>= fun (y10 : Int) => if (decide (y10 = 0)) = true then (sL12Expr_J1 b5_0 b5_1 b5_2 b5_3 b5_4 kb5_5.1 kb5_5.2.1 kb5_5.2.2.1 kb5_5.2.2.2.1 kb5_5.2.2.2.2.1 kb5_5.2.2.2.2.2.1 kb5_5.2.2.2.2.2.2.1 kb5_5.2.2.2.2.2.2.2) else ((sL12Step (GL12In.mk kb5_5.2.2.2.2.2.1 kb5_5.2.2.2.2.2.2.1 kb5_5.2.2.2.2.2.2.2) true) >>= fun (y11 : GL12In) => (sL12Expr y11 (IntKind.wrap .i64 (p1 + 1))) >>= fun (y12 : GExpr × GL12In) => sL12Expr_L0 p1 4 y10 false 0 0 ([], ([], ([], (([(GExpr.mk b5_0 b5_1 b5_2 (GValue.mk b5_3 b5_4 kb5_5.1) kb5_5.2.1 kb5_5.2.2.1 kb5_5.2.2.2.1 kb5_5.2.2.2.2.1), y12.1] : List GExpr), (([] : List GQuery), (y12.2.t, (y12.2.at_, y12.2.bad))))))))) else (sL12Expr_J1 b5_0 b5_1 b5_2 b5_3 b5_4 kb5_5.1 kb5_5.2.1 kb5_5.2.2.1 kb5_5.2.2.2.1 kb5_5.2.2.2.2.1 kb5_5.2.2.2.2.2.1 kb5_5.2.2.2.2.2.2.1 kb5_5.2.2.2.2.2.2.2)
  partial_fixpoint
def sL12Within_L0 (p2 : Bool) (x8 : (List GExpr)) (b1000000_0 : (List GToken)) (b1000000_1 : Int) (b1000000_2 : Bool) : Option (GExpr × GL12In) :=
  (sL12Sign (GL12In.mk b1000000_0 b1000000_1 b1000000_2) [44]) >>= fun (y8 : Bool) => if y8 = true then ((sL12Step (GL12In.mk b1000000_0 b1000000_1 b1000000_2) true) >>= fun (y9 : GL12In) => (sL12Expr y9 1) >>= fun (y10 : GExpr × GL12In) => (appG 136 x8 ([y10.1] : List GExpr)) >>= fun (y11 : List GExpr) => sL12Within_L0 p2 y11 y10.2.t y10.2.at_ y10.2.bad) else ((sL12Sign (GL12In.mk b1000000_0 b1000000_1 b1000000_2) [41]) >>= fun (y12 : Bool) => (sL12Step (GL12In.mk b1000000_0 b1000000_1 b1000000_2) y12) >>= fun (y13 : GL12In) => some ((GExpr.mk 7 0 p2 (GValue.mk 0 0 []) [] [] x8 ([] : List GQuery)), y13))
  partial_fixpoint
def sL12Where (p0 : GL12In) : Option ((List GExpr) × GL12In) :=
  (sL12Maybe p0 6) >>= fun (y1 : Bool × GL12In) => if y1.1 = true then ((sL12Expr y1.2 1) >>= fun (y2 : GExpr × GL12In) => some (([y2.1] : List GExpr), y2.2)) else (some (([] : List GExpr), y1.2))
  partial_fixpoint
def sL12Sort (p0 : GL12In) : Option (GSortKey × GL12In) :=
  (sL12Expr p0 1) >>= fun (y1 : GExpr × GL12In) => (sL12Maybe y1.2 10) >>= fun (y2 : Bool × GL12In) => if y2.1 = true then (some ((GSortKey.mk y1.1 true), y2.2)) else ((sL12Maybe y2.2 9) >>= fun (y3 : Bool × GL12In) => some ((GSortKey.mk y1.1 false), y3.2))
  partial_fixpoint
def sL12Query_L3 (y3 : Bool × GL12In) (b3_1 : (List GItem)) (b3_2 : (List GSource)) (y29 : (List GExpr) × GL12In) (b3_4 : (List GSortKey)) (b1000000_0_35 : (List GToken)) (kb1000000_1_36 : (Int × Bool)) : Option (GQuery × GL12In) :=
  (sL12Sign (GL12In.mk b1000000_0_35 kb1000000_1_36.1 kb1000000_1_36.2) [44]) >>= fun (y43 : Bool) => if y43 = true then ((sL12Step (GL12In.mk b1000000_0_35 kb1000000_1_36.1 kb1000000_1_36.2) true) >>= fun (y44 : GL12In) => (sL12Sort y44) >>= fun (y45 : GSortKey × GL12In) => (appG 144 b3_4 ([y45.1] : List GSortKey)) >>= fun (y46 : List GSortKey) => sL12Query_L3 y3 b3_1 b3_2 y29 y46 y45.2.t (y45.2.at_, y45.2.bad)) else (sL12Query_J4 y3 b3_1 b3_2 y29 b3_4 b1000000_0_35 kb1000000_1_36.1 kb1000000_1_36.2)
  partial_fixpoint
def sL12Query_J2 (y3 : Bool × GL12In) (b3_1 : (List GItem)) (b3_2 : (List GSource)) (y22 : GSource × GL12In) (b5_2 : (List GExpr)) (b1000000_0_26 : (List GToken)) (kb1000000_1_27 : (Int × Bool)) : Option (GQuery × GL12In) :=
  (appG 56 b3_2 ([(GSource.mk y22.1.table y22.1.as_ b5_2)] : List GSource)) >>= fun (y42 : List GSource) => sL12Query_L1 y3 b3_1 y42 b1000000_0_26 kb1000000_1_27.1 kb1000000_1_27.2
  partial_fixpoint
def sL12Query_L1 (y3 : Bool × GL12In) (b3_1 : (List GItem)) (b3_2 : (List GSource)) (b1000000_0_14 : (List GToken)) (b1000000_1_15 : Int) (b1000000_2_16 : Bool) : Option (GQuery × GL12In) :=
  (sL12Sign (GL12In.mk b1000000_0_14 b1000000_1_15 b1000000_2_16) [44]) >>= fun (y17 : Bool) => (if (true && (y17 == false)) = true then sL12Key (GL12In.mk b1000000_0_14 b1000000_1_15 b1000000_2_16) 4 else some (default : Bool)) >>= fun (y18 : Bool) => (some (if y17 = true then true else y18)) >>= fun (y19 : Bool) => if y19 = true then ((sL12Key (GL12In.mk b1000000_0_14 b1000000_1_15 b1000000_2_16) 4) >>= fun (y20 : Bool) => (sL12Step (GL12In.mk b1000000_0_14 b1000000_1_15 b1000000_2_16) true) >>= fun (y21 : GL12In) => (sL12Source y21) >>= fun (y22 : GSource × GL12In) => if y20 = true then ((sL12Key y22.2 5) >>= fun (y23 : Bool) => (sL12Step y22.2 y23) >>= fun (y24 : GL12In) => (sL12Expr y24 1) >>= fun (y25 : GExpr × GL12In) => sL12Query_J2 y3 b3_1 b3_2 y22 ([y25.1] : List GExpr) y25.2.t (y25.2.at_, y25.2.bad)) else (sL12Query_J2 y3 b3_1 b3_2 y22 y22.1.on_ y22.2.t (y22.2.at_, y22.2.bad))) else ((sL12Where (GL12In.mk b1000000_0_14 b1000000_1_15 b1000000_2_16)) >>= fun (y29 : (List GExpr) × GL12In) => (sL12Maybe y29.2 7) >>= fun (y30 : Bool × GL12In) => if y30.1 = true then ((sL12Key y30.2 8) >>= fun (y31 : Bool) => (sL12Step y30.2 y31) >>= fun (y32 : GL12In) => (sL12Sort y32) >>= fun (y33 : GSortKey × GL12In) => (appG 144 [] ([y33.1] : List GSortKey)) >>= fun (y34 : List GSortKey) => sL12Query_L3 y3 b3_1 b3_2 y29 y34 y33.2.t (y33.2.at_, y33.2.bad)) else (sL12Query_J4 y3 b3_1 b3_2 y29 ([] : List GSortKey) y30.2.t y30.2.at_ y30.2.bad))
  partial_fixpoint
def sL12Query_L0 (y3 : Bool × GL12In) (b3_1 : (List GItem)) (b1000000_0 : (List GToken)) (b1000000_1 : Int) (b1000000_2 : Bool) : Option (GQuery × GL12In) :=
  (sL12Sign (GL12In.mk b1000000_0 b1000000_1 b1000000_2) [44]) >>= fun (y6 : Bool) => if y6 = true then ((sL12Step (GL12In.mk b1000000_0 b1000000_1 b1000000_2) true) >>= fun (y7 : GL12In) => (sL12Item y7) >>= fun (y8 : GItem × GL12In) => (appG 176 b3_1 ([y8.1] : List GItem)) >>= fun (y9 : List GItem) => sL12Query_L0 y3 y9 y8.2.t y8.2.at_ y8.2.bad) else ((sL12Key (GL12In.mk b1000000_0 b1000000_1 b1000000_2) 3) >>= fun (y10 : Bool) => (sL12Step (GL12In.mk b1000000_0 b1000000_1 b1000000_2) y10) >>= fun (y11 : GL12In) => (sL12Source y11) >>= fun (y12 : GSource × GL12In) => (appG 56 [] ([y12.1] : List GSource)) >>= fun (y13 : List GSource) => sL12Query_L1 y3 b3_1 y13 y12.2.t y12.2.at_ y12.2.bad)
  partial_fixpoint
def sL12Item (p0 : GL12In) : Option (GItem × GL12In) :=
  (sL12Next p0 1) >>= fun (y1 : GToken) => (sL12Next p0 2) >>= fun (y2 : GToken) => (sL12Sign p0 [42]) >>= fun (y3 : Bool) => if y3 = true then ((sL12Step p0 true) >>= fun (y4 : GL12In) => some ((GItem.mk true [] (GExpr.mk 0 0 false (GValue.mk 0 0 []) [] [] ([] : List GExpr) ([] : List GQuery)) []), y4)) else ((sL12Kind p0 2) >>= fun (y5 : Bool) => (some (if y5 = true then (decide (y1.kind = 5)) else false)) >>= fun (y6 : Bool) => (some (if y6 = true then (decide (y1.text = [46])) else false)) >>= fun (y7 : Bool) => (some (if y7 = true then (decide (y2.kind = 5)) else false)) >>= fun (y8 : Bool) => (some (if y8 = true then (decide (y2.text = [42])) else false)) >>= fun (y9 : Bool) => if y9 = true then ((sL12Text p0 2) >>= fun (y10 : (List UInt8) × GL12In) => (sL12Step y10.2 true) >>= fun (y11 : GL12In) => (sL12Step y11 true) >>= fun (y12 : GL12In) => some ((GItem.mk true y10.1 (GExpr.mk 0 0 false (GValue.mk 0 0 []) [] [] ([] : List GExpr) ([] : List GQuery)) []), y12)) else ((sL12Expr p0 1) >>= fun (y13 : GExpr × GL12In) => (sL12As y13.2) >>= fun (y14 : (List UInt8) × GL12In) => some ((GItem.mk false [] y13.1 y14.1), y14.2)))
  partial_fixpoint
def sL12Query (p0 : GL12In) : Option (GQuery × GL12In) :=
  (sL12Key p0 1) >>= fun (y1 : Bool) => (sL12Step p0 y1) >>= fun (y2 : GL12In) => (sL12Maybe y2 2) >>= fun (y3 : Bool × GL12In) => (sL12Item y3.2) >>= fun (y4 : GItem × GL12In) => (appG 176 [] ([y4.1] : List GItem)) >>= fun (y5 : List GItem) => sL12Query_L0 y3 y5 y4.2.t y4.2.at_ y4.2.bad
  partial_fixpoint
def sL12Within (p0 : GL12In) (p1 : GExpr) (p2 : Bool) : Option (GExpr × GL12In) :=
  (sL12Sign p0 [40]) >>= fun (y1 : Bool) => (sL12Step p0 y1) >>= fun (y2 : GL12In) => (sL12Key y2 1) >>= fun (y3 : Bool) => if y3 = true then ((sL12Query y2) >>= fun (y4 : GQuery × GL12In) => (sL12Sign y4.2 [41]) >>= fun (y5 : Bool) => (sL12Step y4.2 y5) >>= fun (y6 : GL12In) => some ((GExpr.mk 8 0 p2 (GValue.mk 0 0 []) [] [] ([p1] : List GExpr) ([y4.1] : List GQuery)), y6)) else ((sL12Expr y2 1) >>= fun (y7 : GExpr × GL12In) => sL12Within_L0 p2 ([p1, y7.1] : List GExpr) y7.2.t y7.2.at_ y7.2.bad)
  partial_fixpoint
def sL12Cmp (p0 : GL12In) : Option (GExpr × GL12In) :=
  (sL12Expr p0 5) >>= fun (y1 : GExpr × GL12In) => (sL12Op y1.2 4) >>= fun (y2 : Int) => if (decide (0 < y2)) = true then ((sL12Step y1.2 true) >>= fun (y3 : GL12In) => (sL12Expr y3 5) >>= fun (y4 : GExpr × GL12In) => some ((GExpr.mk 4 y2 false (GValue.mk 0 0 []) [] [] ([y1.1, y4.1] : List GExpr) ([] : List GQuery)), y4.2)) else ((sL12Maybe y1.2 16) >>= fun (y5 : Bool × GL12In) => if y5.1 = true then ((sL12Maybe y5.2 15) >>= fun (y6 : Bool × GL12In) => (sL12Key y6.2 20) >>= fun (y7 : Bool) => (sL12Step y6.2 y7) >>= fun (y8 : GL12In) => some ((GExpr.mk 5 0 y6.1 (GValue.mk 0 0 []) [] [] ([y1.1] : List GExpr) ([] : List GQuery)), y8)) else ((sL12Maybe y5.2 15) >>= fun (y9 : Bool × GL12In) => (sL12Maybe y9.2 18) >>= fun (y10 : Bool × GL12In) => if y10.1 = true then ((sL12Expr y10.2 5) >>= fun (y11 : GExpr × GL12In) => (sL12Key y11.2 13) >>= fun (y12 : Bool) => (sL12Step y11.2 y12) >>= fun (y13 : GL12In) => (sL12Expr y13 5) >>= fun (y14 : GExpr × GL12In) => some ((GExpr.mk 6 0 y9.1 (GValue.mk 0 0 []) [] [] ([y1.1, y11.1, y14.1] : List GExpr) ([] : List GQuery)), y14.2)) else ((sL12Maybe y10.2 17) >>= fun (y15 : Bool × GL12In) => if y15.1 = true then ((sL12Within y15.2 y1.1 y9.1) >>= fun (y16 : GExpr × GL12In) => some (y16.1, y16.2)) else (if y9.1 = true then (sL12Cmp_J0 y1 y15 true) else (sL12Cmp_J0 y1 y15 y15.2.bad)))))
  partial_fixpoint
def sL12Expr (p0 : GL12In) (p1 : Int) : Option (GExpr × GL12In) :=
  if (decide (p1 = 3)) = true then ((sL12Maybe p0 15) >>= fun (y1 : Bool × GL12In) => if y1.1 = true then ((sL12Expr y1.2 3) >>= fun (y2 : GExpr × GL12In) => some ((GExpr.mk 3 15 false (GValue.mk 0 0 []) [] [] ([y2.1] : List GExpr) ([] : List GQuery)), y2.2)) else ((sL12Expr y1.2 4) >>= fun (y3 : GExpr × GL12In) => some (y3.1, y3.2))) else (if (decide (p1 = 4)) = true then ((sL12Cmp p0) >>= fun (y4 : GExpr × GL12In) => some (y4.1, y4.2)) else (if (decide (p1 = 8)) = true then ((sL12Sign p0 [45]) >>= fun (y5 : Bool) => if y5 = true then ((sL12Step p0 true) >>= fun (y6 : GL12In) => (sL12Expr y6 8) >>= fun (y7 : GExpr × GL12In) => some ((GExpr.mk 3 16 false (GValue.mk 0 0 []) [] [] ([y7.1] : List GExpr) ([] : List GQuery)), y7.2)) else ((sL12Prim p0) >>= fun (y8 : GExpr × GL12In) => some (y8.1, y8.2))) else ((sL12Expr p0 (IntKind.wrap .i64 (p1 + 1))) >>= fun (y9 : GExpr × GL12In) => sL12Expr_L0 p1 y9.1.kind y9.1.op y9.1.not_ y9.1.value.kind y9.1.value.num (y9.1.value.text, (y9.1.qual, (y9.1.name, (y9.1.kids, (y9.1.sub, (y9.2.t, (y9.2.at_, y9.2.bad))))))))))
  partial_fixpoint
end
def sTakeExpr (p0 : (List GToken)) : Option (GExpr × Int) :=
  (sL12Expr (GL12In.mk p0 0 false) 1) >>= fun (y1 : GExpr × GL12In) => (sL12End y1.2) >>= fun (y2 : Int) => if (decide (0 ≤ y2)) = true then (some ((GExpr.mk 0 0 false (GValue.mk 0 0 []) [] [] ([] : List GExpr) ([] : List GQuery)), y2)) else (some (y1.1, (-1)))
def sBegins (p0 : (List GToken)) : Option Bool :=
  (sTakeExpr p0) >>= fun (y1 : GExpr × Int) => (some (if (decide (y1.2 < 0)) = true then true else (decide (y1.2 = (p0.length : Int))))) >>= fun (y2 : Bool) => some y2
def wEqToken (p0 : GToken) (p1 : GToken) : Option Bool :=
  if (!decide (p0.kind = p1.kind)) = true then (some false) else (if (!decide (p0.text = p1.text)) = true then (some false) else (if (!decide (p0.at_ = p1.at_)) = true then (some false) else (some true)))
def wEqTokenS_L0 (p0 : (List GToken)) (p1 : (List GToken)) (x5 : Int) : Option Bool :=
  if (decide (x5 < (p0.length : Int))) = true then ((idx p0 x5) >>= fun (y1 : GToken) => (idx p1 x5) >>= fun (y2 : GToken) => (wEqToken y1 y2) >>= fun (y3 : Bool) => if (!y3) = true then (some false) else (wEqTokenS_L0 p0 p1 (IntKind.wrap .i64 (x5 + 1)))) else (some true)
  partial_fixpoint
def wEqTokenS (p0 : (List GToken)) (p1 : (List GToken)) : Option Bool :=
  if (!decide ((p0.length : Int) = (p1.length : Int))) = true then (some false) else (wEqTokenS_L0 p0 p1 0)
def wSzToken (p0 : GToken) (p1 : Int) : Option Int :=
  if (decide ((IntKind.wrap .i64 (p1 - (p0.text.length : Int))) < 0)) = true then (some (-1)) else (some (IntKind.wrap .i64 (p1 - (p0.text.length : Int))))
def wSzTokenS_L0 (p0 : (List GToken)) (x1 : Int) (x5 : Int) : Option Int :=
  if (decide (x5 < (p0.length : Int))) = true then ((idx p0 x5) >>= fun (y1 : GToken) => (wSzToken y1 x1) >>= fun (y2 : Int) => if (decide (y2 < 0)) = true then (some (-1)) else (wSzTokenS_L0 p0 y2 (IntKind.wrap .i64 (x5 + 1)))) else (some x1)
  partial_fixpoint
def wSzTokenS (p0 : (List GToken)) (p1 : Int) : Option Int :=
  if (decide ((IntKind.wrap .i64 (p1 - (p0.length : Int))) < 0)) = true then (some (-1)) else (wSzTokenS_L0 p0 (IntKind.wrap .i64 (p1 - (p0.length : Int))) 0)
def wToToken (p0 : GToken) : Option GToken :=
  some p0
def wToTokenS_L0 (p0 : (List GToken)) (x4 : Int) (b7_0 : (List GToken)) : Option (List GToken) :=
  if (decide (x4 < (p0.length : Int))) = true then ((idx p0 x4) >>= fun (y2 : GToken) => (wToToken y2) >>= fun (y3 : GToken) => (idx b7_0 x4) >>= fun (y4 : GToken) => (setG b7_0 x4 y3) >>= fun (y5 : (List GToken)) => wToTokenS_L0 p0 (IntKind.wrap .i64 (x4 + 1)) y5) else (some b7_0)
  partial_fixpoint
def wToTokenS (p0 : (List GToken)) : Option (List GToken) :=
  (mkG 32 (p0.length : Int) ((GToken.mk 0 [] 0) : GToken)) >>= fun (y1 : (List GToken)) => wToTokenS_L0 p0 0 y1
def wFnExactBegins (p0 : (List GToken)) : Option Bool :=
  (wSzTokenS p0 1048576) >>= fun (y1 : Int) => if (decide (y1 < 0)) = true then (some true) else ((wToTokenS p0) >>= fun (y2 : (List GToken)) => (sBegins y2) >>= fun (y3 : Bool) => (wToTokenS p0) >>= fun (y4 : (List GToken)) => (iBegins y4) >>= fun (y5 : Bool) => if (!(y5 == y3)) = true then (some false) else ((wToTokenS p0) >>= fun (y6 : (List GToken)) => (wEqTokenS y4 y6) >>= fun (y7 : Bool) => if (!y7) = true then (some false) else (some true)))
end Go.Ab
