/- The functions of the program, as Lean functions (printed by a program). -/
import Derived.Test.YtefdlkkffkhbgaaAbF0
namespace Go.Ab
open Go
structure GValue where
  kind : Int
  num : Int
  text : (List UInt8)
instance : Inhabited GValue := ⟨(GValue.mk 0 0 [])⟩
structure GL1Cur where
  b : (List Int)
  i : Int
  h : Int
instance : Inhabited GL1Cur := ⟨(GL1Cur.mk [] 0 0)⟩
def okGValue (x : GValue) : Prop := okI x.kind ∧ okI x.num ∧ okS x.text
def okGL1Cur (x : GL1Cur) : Prop := (okL okU8) x.b ∧ okI x.i ∧ okI x.h
def gSlices_Equal_Simpl_Value_impl_Value_L0 (p0 : (List GValue)) (p1 : (List GValue)) (x13 : Int) : Option Bool :=
  if (decide (x13 < (p0.length : Int))) = true then ((idx p0 x13) >>= fun (y1 : GValue) => (idx p1 x13) >>= fun (y2 : GValue) => if (!((decide (y1.kind = y2.kind)) && ((decide (y1.num = y2.num)) && ((decide (y1.text = y2.text)) && true)))) = true then (some false) else (gSlices_Equal_Simpl_Value_impl_Value_L0 p0 p1 (IntKind.wrap .i64 (x13 + 1)))) else (some true)
  partial_fixpoint
def gSlices_Equal_Simpl_Value_impl_Value (p0 : (List GValue)) (p1 : (List GValue)) : Option Bool :=
  if (!decide ((p0.length : Int) = (p1.length : Int))) = true then (some false) else (gSlices_Equal_Simpl_Value_impl_Value_L0 p0 p1 0)
def gSlices_EqualFunc_SSimpl_Value_SSimpl_Value_Simpl_Value_Simpl_Value_gSlices_Equal_Simpl_Value_impl_Value_L0 (p1 : (List (List GValue))) (p0 : (List (List GValue))) (x17 : Int) : Option Bool :=
  if (decide (x17 < (p0.length : Int))) = true then ((idx p0 x17) >>= fun (y1 : (List GValue)) => (idx p1 x17) >>= fun (y2 : (List GValue)) => (gSlices_Equal_Simpl_Value_impl_Value y1 y2) >>= fun (y3 : Bool) => if (!y3) = true then (some false) else (gSlices_EqualFunc_SSimpl_Value_SSimpl_Value_Simpl_Value_Simpl_Value_gSlices_Equal_Simpl_Value_impl_Value_L0 p1 p0 (IntKind.wrap .i64 (x17 + 1)))) else (some true)
  partial_fixpoint
def gSlices_EqualFunc_SSimpl_Value_SSimpl_Value_Simpl_Value_Simpl_Value_gSlices_Equal_Simpl_Value_impl_Value (p0 : (List (List GValue))) (p1 : (List (List GValue))) : Option Bool :=
  if (!decide ((p0.length : Int) = (p1.length : Int))) = true then (some false) else (gSlices_EqualFunc_SSimpl_Value_SSimpl_Value_Simpl_Value_Simpl_Value_gSlices_Equal_Simpl_Value_impl_Value_L0 p1 p0 0)
def iSameRows (p0 : (List (List GValue))) (p1 : (List (List GValue))) : Option Bool :=
  (gSlices_EqualFunc_SSimpl_Value_SSimpl_Value_Simpl_Value_Simpl_Value_gSlices_Equal_Simpl_Value_impl_Value p0 p1) >>= fun (y1 : Bool) => some y1
def gCmp_isNaN_int (p0 : Int) : Option Bool :=
  some (!decide (p0 = p0))
def gCmp_Compare_int (p0 : Int) (p1 : Int) : Option Int :=
  (gCmp_isNaN_int p0) >>= fun (y1 : Bool) => (gCmp_isNaN_int p1) >>= fun (y2 : Bool) => if y1 = true then (if y2 = true then (some 0) else (some (-1))) else (if y2 = true then (some 1) else (if (decide (p0 < p1)) = true then (some (-1)) else (if (decide (p1 < p0)) = true then (some 1) else (some 0))))
def gCmp_isNaN_string (p0 : (List UInt8)) : Option Bool :=
  some (!decide (p0 = p0))
def gCmp_Compare_string (p0 : (List UInt8)) (p1 : (List UInt8)) : Option Int :=
  (gCmp_isNaN_string p0) >>= fun (y1 : Bool) => (gCmp_isNaN_string p1) >>= fun (y2 : Bool) => if y1 = true then (if y2 = true then (some 0) else (some (-1))) else (if y2 = true then (some 1) else (if (Op.bytesLess p0 p1) = true then (some (-1)) else (if (!(Op.bytesLess p0 p1 || decide (p0 = p1))) = true then (some 1) else (some 0))))
def gCmp_Or_int_L0 (p0 : (List Int)) (x8 : Int) : Option Int :=
  if (decide (x8 < (p0.length : Int))) = true then ((idx p0 x8) >>= fun (y1 : Int) => if (!decide (y1 = 0)) = true then (some y1) else (gCmp_Or_int_L0 p0 (IntKind.wrap .i64 (x8 + 1)))) else (some 0)
  partial_fixpoint
def gCmp_Or_int (p0 : (List Int)) : Option Int :=
  gCmp_Or_int_L0 p0 0
def iOrder (p0 : GValue) (p1 : GValue) : Option Int :=
  (gCmp_Compare_int p0.kind p1.kind) >>= fun (y1 : Int) => (gCmp_Compare_int p0.num p1.num) >>= fun (y2 : Int) => (gCmp_Compare_string p0.text p1.text) >>= fun (y3 : Int) => (gCmp_Or_int ([y1, y2, y3] : List Int)) >>= fun (y4 : Int) => some y4
def gSlices_CompareFunc_Simpl_Value_Simpl_Value_impl_Value_impl_Value_iOrder_L0 (p0 : (List GValue)) (p1 : (List GValue)) (x13 : Int) : Option Int :=
  if (decide (x13 < (p0.length : Int))) = true then ((idx p0 x13) >>= fun (y1 : GValue) => if (decide ((p1.length : Int) ≤ x13)) = true then (some 1) else ((idx p1 x13) >>= fun (y2 : GValue) => (iOrder y1 y2) >>= fun (y3 : Int) => if (!decide (y3 = 0)) = true then (some y3) else (gSlices_CompareFunc_Simpl_Value_Simpl_Value_impl_Value_impl_Value_iOrder_L0 p0 p1 (IntKind.wrap .i64 (x13 + 1))))) else (if (decide ((p0.length : Int) < (p1.length : Int))) = true then (some (-1)) else (some 0))
  partial_fixpoint
def gSlices_CompareFunc_Simpl_Value_Simpl_Value_impl_Value_impl_Value_iOrder (p0 : (List GValue)) (p1 : (List GValue)) : Option Int :=
  gSlices_CompareFunc_Simpl_Value_Simpl_Value_impl_Value_impl_Value_iOrder_L0 p0 p1 0
def iOrderRow (p0 : (List GValue)) (p1 : (List GValue)) : Option Int :=
  (gSlices_CompareFunc_Simpl_Value_Simpl_Value_impl_Value_impl_Value_iOrder p0 p1) >>= fun (y1 : Int) => some y1
mutual
def gSlices_insertionSortCmpFunc_Simpl_Value_iOrderRow_L1 (p1 : Int) (p2 : Int) (x8 : Int) (x9 : Int) (b3000000_0_1 : (List (List GValue))) : Option (List (List GValue)) :=
  (if (true && ((decide (p1 < x9)) == true)) = true then idx b3000000_0_1 x9 else some default) >>= fun (y2 : (List GValue)) => (if (true && ((decide (p1 < x9)) == true)) = true then idx b3000000_0_1 x9 else some default) >>= fun (y3 : (List GValue)) => (if (true && ((decide (p1 < x9)) == true)) = true then idx b3000000_0_1 (IntKind.wrap .i64 (x9 - 1)) else some default) >>= fun (y4 : (List GValue)) => (if (true && ((decide (p1 < x9)) == true)) = true then idx b3000000_0_1 (IntKind.wrap .i64 (x9 - 1)) else some default) >>= fun (y5 : (List GValue)) => (if (true && ((decide (p1 < x9)) == true)) = true then iOrderRow y3 y5 else some default) >>= fun (y6 : Int) => (some (if (decide (p1 < x9)) = true then (decide (y6 < 0)) else false)) >>= fun (y7 : Bool) => if y7 = true then ((idx b3000000_0_1 (IntKind.wrap .i64 (x9 - 1))) >>= fun (y8 : (List GValue)) => (idx b3000000_0_1 (IntKind.wrap .i64 (x9 - 1))) >>= fun (y9 : (List GValue)) => (idx b3000000_0_1 x9) >>= fun (y10 : (List GValue)) => (idx b3000000_0_1 x9) >>= fun (y11 : (List GValue)) => (idx b3000000_0_1 x9) >>= fun (y12 : (List GValue)) => (setG b3000000_0_1 x9 y9) >>= fun (y13 : (List (List GValue))) => (idx y13 (IntKind.wrap .i64 (x9 - 1))) >>= fun (y14 : (List GValue)) => (setG y13 (IntKind.wrap .i64 (x9 - 1)) y11) >>= fun (y15 : (List (List GValue))) => gSlices_insertionSortCmpFunc_Simpl_Value_iOrderRow_L1 p1 p2 x8 (IntKind.wrap .i64 (x9 - 1)) y15) else (gSlices_insertionSortCmpFunc_Simpl_Value_iOrderRow_L0 p1 p2 (IntKind.wrap .i64 (x8 + 1)) b3000000_0_1)
  partial_fixpoint
def gSlices_insertionSortCmpFunc_Simpl_Value_iOrderRow_L0 (p1 : Int) (p2 : Int) (x8 : Int) (b3000000_0 : (List (List GValue))) : Option (List (List GValue)) :=
  if (decide (x8 < p2)) = true then (gSlices_insertionSortCmpFunc_Simpl_Value_iOrderRow_L1 p1 p2 x8 x8 b3000000_0) else (some b3000000_0)
  partial_fixpoint
end
def gSlices_insertionSortCmpFunc_Simpl_Value_iOrderRow (p0 : (List (List GValue))) (p1 : Int) (p2 : Int) : Option (List (List GValue)) :=
  gSlices_insertionSortCmpFunc_Simpl_Value_iOrderRow_L0 p1 p2 (IntKind.wrap .i64 (p1 + 1)) p0
def gSlices_swapRangeCmpFunc_Simpl_Value_iOrderRow_L0 (p1 : Int) (p2 : Int) (p3 : Int) (x10 : Int) (b3000000_0 : (List (List GValue))) : Option (List (List GValue)) :=
  if (decide (x10 < p3)) = true then ((idx b3000000_0 (IntKind.wrap .i64 (p2 + x10))) >>= fun (y1 : (List GValue)) => (idx b3000000_0 (IntKind.wrap .i64 (p2 + x10))) >>= fun (y2 : (List GValue)) => (idx b3000000_0 (IntKind.wrap .i64 (p1 + x10))) >>= fun (y3 : (List GValue)) => (idx b3000000_0 (IntKind.wrap .i64 (p1 + x10))) >>= fun (y4 : (List GValue)) => (idx b3000000_0 (IntKind.wrap .i64 (p1 + x10))) >>= fun (y5 : (List GValue)) => (setG b3000000_0 (IntKind.wrap .i64 (p1 + x10)) y2) >>= fun (y6 : (List (List GValue))) => (idx y6 (IntKind.wrap .i64 (p2 + x10))) >>= fun (y7 : (List GValue)) => (setG y6 (IntKind.wrap .i64 (p2 + x10)) y4) >>= fun (y8 : (List (List GValue))) => gSlices_swapRangeCmpFunc_Simpl_Value_iOrderRow_L0 p1 p2 p3 (IntKind.wrap .i64 (x10 + 1)) y8) else (some b3000000_0)
  partial_fixpoint
def gSlices_swapRangeCmpFunc_Simpl_Value_iOrderRow (p0 : (List (List GValue))) (p1 : Int) (p2 : Int) (p3 : Int) : Option (List (List GValue)) :=
  gSlices_swapRangeCmpFunc_Simpl_Value_iOrderRow_L0 p1 p2 p3 0 p0
def gSlices_rotateCmpFunc_Simpl_Value_iOrderRow_L0 (p2 : Int) (x10 : Int) (x11 : Int) (b3000000_0 : (List (List GValue))) : Option (List (List GValue)) :=
  if (!decide (x10 = x11)) = true then (if (decide (x11 < x10)) = true then ((gSlices_swapRangeCmpFunc_Simpl_Value_iOrderRow b3000000_0 (IntKind.wrap .i64 (p2 - x10)) p2 x11) >>= fun (y1 : (List (List GValue))) => gSlices_rotateCmpFunc_Simpl_Value_iOrderRow_L0 p2 (IntKind.wrap .i64 (x10 - x11)) x11 y1) else ((gSlices_swapRangeCmpFunc_Simpl_Value_iOrderRow b3000000_0 (IntKind.wrap .i64 (p2 - x10)) (IntKind.wrap .i64 ((IntKind.wrap .i64 (p2 + x11)) - x10)) x10) >>= fun (y2 : (List (List GValue))) => gSlices_rotateCmpFunc_Simpl_Value_iOrderRow_L0 p2 x10 (IntKind.wrap .i64 (x11 - x10)) y2)) else ((gSlices_swapRangeCmpFunc_Simpl_Value_iOrderRow b3000000_0 (IntKind.wrap .i64 (p2 - x10)) p2 x10) >>= fun (y3 : (List (List GValue))) => some y3)
  partial_fixpoint
def gSlices_rotateCmpFunc_Simpl_Value_iOrderRow (p0 : (List (List GValue))) (p1 : Int) (p2 : Int) (p3 : Int) : Option (List (List GValue)) :=
  gSlices_rotateCmpFunc_Simpl_Value_iOrderRow_L0 p2 (IntKind.wrap .i64 (p2 - p1)) (IntKind.wrap .i64 (p3 - p2)) p0
def gSlices_symMergeCmpFunc_Simpl_Value_iOrderRow_L3 (x10 : Int) (x13 : Int) (b3000000_0 : (List (List GValue))) : Option (List (List GValue)) :=
  if (decide (x13 < (IntKind.wrap .i64 (x10 - 1)))) = true then ((idx b3000000_0 (IntKind.wrap .i64 (x13 + 1))) >>= fun (y14 : (List GValue)) => (idx b3000000_0 (IntKind.wrap .i64 (x13 + 1))) >>= fun (y15 : (List GValue)) => (idx b3000000_0 x13) >>= fun (y16 : (List GValue)) => (idx b3000000_0 x13) >>= fun (y17 : (List GValue)) => (idx b3000000_0 x13) >>= fun (y18 : (List GValue)) => (setG b3000000_0 x13 y15) >>= fun (y19 : (List (List GValue))) => (idx y19 (IntKind.wrap .i64 (x13 + 1))) >>= fun (y20 : (List GValue)) => (setG y19 (IntKind.wrap .i64 (x13 + 1)) y17) >>= fun (y21 : (List (List GValue))) => gSlices_symMergeCmpFunc_Simpl_Value_iOrderRow_L3 x10 (IntKind.wrap .i64 (x13 + 1)) y21) else (some b3000000_0)
  partial_fixpoint
def gSlices_symMergeCmpFunc_Simpl_Value_iOrderRow_L0 (p1 : Int) (p0 : (List (List GValue))) (x10 : Int) (x11 : Int) : Option (List (List GValue)) :=
  if (decide (x10 < x11)) = true then ((idx p0 (IntKind.wrap .i64 (Int.fdiv (IntKind.wrap .u64 (IntKind.wrap .i64 (x10 + x11))) (2 ^ 1)))) >>= fun (y1 : (List GValue)) => (idx p0 (IntKind.wrap .i64 (Int.fdiv (IntKind.wrap .u64 (IntKind.wrap .i64 (x10 + x11))) (2 ^ 1)))) >>= fun (y2 : (List GValue)) => (idx p0 p1) >>= fun (y3 : (List GValue)) => (idx p0 p1) >>= fun (y4 : (List GValue)) => (iOrderRow y2 y4) >>= fun (y5 : Int) => if (decide (y5 < 0)) = true then (gSlices_symMergeCmpFunc_Simpl_Value_iOrderRow_L0 p1 p0 (IntKind.wrap .i64 ((IntKind.wrap .i64 (Int.fdiv (IntKind.wrap .u64 (IntKind.wrap .i64 (x10 + x11))) (2 ^ 1))) + 1)) x11) else (gSlices_symMergeCmpFunc_Simpl_Value_iOrderRow_L0 p1 p0 x10 (IntKind.wrap .i64 (Int.fdiv (IntKind.wrap .u64 (IntKind.wrap .i64 (x10 + x11))) (2 ^ 1))))) else (gSlices_symMergeCmpFunc_Simpl_Value_iOrderRow_L3 x10 p1 p0)
  partial_fixpoint
def gSlices_symMergeCmpFunc_Simpl_Value_iOrderRow_L4 (x14 : Int) (x17 : Int) (b3000000_0_11 : (List (List GValue))) : Option (List (List GValue)) :=
  if (decide (x14 < x17)) = true then ((idx b3000000_0_11 (IntKind.wrap .i64 (x17 - 1))) >>= fun (y22 : (List GValue)) => (idx b3000000_0_11 (IntKind.wrap .i64 (x17 - 1))) >>= fun (y23 : (List GValue)) => (idx b3000000_0_11 x17) >>= fun (y24 : (List GValue)) => (idx b3000000_0_11 x17) >>= fun (y25 : (List GValue)) => (idx b3000000_0_11 x17) >>= fun (y26 : (List GValue)) => (setG b3000000_0_11 x17 y23) >>= fun (y27 : (List (List GValue))) => (idx y27 (IntKind.wrap .i64 (x17 - 1))) >>= fun (y28 : (List GValue)) => (setG y27 (IntKind.wrap .i64 (x17 - 1)) y25) >>= fun (y29 : (List (List GValue))) => gSlices_symMergeCmpFunc_Simpl_Value_iOrderRow_L4 x14 (IntKind.wrap .i64 (x17 - 1)) y29) else (some b3000000_0_11)
  partial_fixpoint
def gSlices_symMergeCmpFunc_Simpl_Value_iOrderRow_L1 (p2 : Int) (p0 : (List (List GValue))) (x14 : Int) (x15 : Int) : Option (List (List GValue)) :=
  if (decide (x14 < x15)) = true then ((idx p0 p2) >>= fun (y6 : (List GValue)) => (idx p0 p2) >>= fun (y7 : (List GValue)) => (idx p0 (IntKind.wrap .i64 (Int.fdiv (IntKind.wrap .u64 (IntKind.wrap .i64 (x14 + x15))) (2 ^ 1)))) >>= fun (y8 : (List GValue)) => (idx p0 (IntKind.wrap .i64 (Int.fdiv (IntKind.wrap .u64 (IntKind.wrap .i64 (x14 + x15))) (2 ^ 1)))) >>= fun (y9 : (List GValue)) => (iOrderRow y7 y9) >>= fun (y10 : Int) => if (!(decide (y10 < 0))) = true then (gSlices_symMergeCmpFunc_Simpl_Value_iOrderRow_L1 p2 p0 (IntKind.wrap .i64 ((IntKind.wrap .i64 (Int.fdiv (IntKind.wrap .u64 (IntKind.wrap .i64 (x14 + x15))) (2 ^ 1))) + 1)) x15) else (gSlices_symMergeCmpFunc_Simpl_Value_iOrderRow_L1 p2 p0 x14 (IntKind.wrap .i64 (Int.fdiv (IntKind.wrap .u64 (IntKind.wrap .i64 (x14 + x15))) (2 ^ 1))))) else (gSlices_symMergeCmpFunc_Simpl_Value_iOrderRow_L4 x14 p2 p0)
  partial_fixpoint
mutual
def gSlices_symMergeCmpFunc_Simpl_Value_iOrderRow_J7 (p3 : Int) (p1 : Int) (p2 : Int) (x20_12 : Int) (b3000000_0_40 : (List (List GValue))) : Option (List (List GValue)) :=
  (some (if (decide ((IntKind.wrap .i64 (Int.fdiv (IntKind.wrap .u64 (IntKind.wrap .i64 (p1 + p3))) (2 ^ 1))) < (IntKind.wrap .i64 ((IntKind.wrap .i64 ((IntKind.wrap .i64 (Int.fdiv (IntKind.wrap .u64 (IntKind.wrap .i64 (p1 + p3))) (2 ^ 1))) + p2)) - x20_12)))) = true then (decide ((IntKind.wrap .i64 ((IntKind.wrap .i64 ((IntKind.wrap .i64 (Int.fdiv (IntKind.wrap .u64 (IntKind.wrap .i64 (p1 + p3))) (2 ^ 1))) + p2)) - x20_12)) < p3)) else false)) >>= fun (y41 : Bool) => if y41 = true then ((gSlices_symMergeCmpFunc_Simpl_Value_iOrderRow b3000000_0_40 (IntKind.wrap .i64 (Int.fdiv (IntKind.wrap .u64 (IntKind.wrap .i64 (p1 + p3))) (2 ^ 1))) (IntKind.wrap .i64 ((IntKind.wrap .i64 ((IntKind.wrap .i64 (Int.fdiv (IntKind.wrap .u64 (IntKind.wrap .i64 (p1 + p3))) (2 ^ 1))) + p2)) - x20_12)) p3) >>= fun (y42 : (List (List GValue))) => some y42) else (some b3000000_0_40)
  partial_fixpoint
def gSlices_symMergeCmpFunc_Simpl_Value_iOrderRow_J6 (p1 : Int) (p3 : Int) (x20_12 : Int) (p2 : Int) (b3000000_0_37 : (List (List GValue))) : Option (List (List GValue)) :=
  (some (if (decide (p1 < x20_12)) = true then (decide (x20_12 < (IntKind.wrap .i64 (Int.fdiv (IntKind.wrap .u64 (IntKind.wrap .i64 (p1 + p3))) (2 ^ 1))))) else false)) >>= fun (y38 : Bool) => if y38 = true then ((gSlices_symMergeCmpFunc_Simpl_Value_iOrderRow b3000000_0_37 p1 x20_12 (IntKind.wrap .i64 (Int.fdiv (IntKind.wrap .u64 (IntKind.wrap .i64 (p1 + p3))) (2 ^ 1)))) >>= fun (y39 : (List (List GValue))) => gSlices_symMergeCmpFunc_Simpl_Value_iOrderRow_J7 p3 p1 p2 x20_12 y39) else (gSlices_symMergeCmpFunc_Simpl_Value_iOrderRow_J7 p3 p1 p2 x20_12 b3000000_0_37)
  partial_fixpoint
def gSlices_symMergeCmpFunc_Simpl_Value_iOrderRow_L5 (p1 : Int) (p2 : Int) (p3 : Int) (p0 : (List (List GValue))) (x20_12 : Int) (x21_13 : Int) : Option (List (List GValue)) :=
  if (decide (x20_12 < x21_13)) = true then ((idx p0 (IntKind.wrap .i64 ((IntKind.wrap .i64 ((IntKind.wrap .i64 ((IntKind.wrap .i64 (Int.fdiv (IntKind.wrap .u64 (IntKind.wrap .i64 (p1 + p3))) (2 ^ 1))) + p2)) - 1)) - (IntKind.wrap .i64 (Int.fdiv (IntKind.wrap .u64 (IntKind.wrap .i64 (x20_12 + x21_13))) (2 ^ 1)))))) >>= fun (y30 : (List GValue)) => (idx p0 (IntKind.wrap .i64 ((IntKind.wrap .i64 ((IntKind.wrap .i64 ((IntKind.wrap .i64 (Int.fdiv (IntKind.wrap .u64 (IntKind.wrap .i64 (p1 + p3))) (2 ^ 1))) + p2)) - 1)) - (IntKind.wrap .i64 (Int.fdiv (IntKind.wrap .u64 (IntKind.wrap .i64 (x20_12 + x21_13))) (2 ^ 1)))))) >>= fun (y31 : (List GValue)) => (idx p0 (IntKind.wrap .i64 (Int.fdiv (IntKind.wrap .u64 (IntKind.wrap .i64 (x20_12 + x21_13))) (2 ^ 1)))) >>= fun (y32 : (List GValue)) => (idx p0 (IntKind.wrap .i64 (Int.fdiv (IntKind.wrap .u64 (IntKind.wrap .i64 (x20_12 + x21_13))) (2 ^ 1)))) >>= fun (y33 : (List GValue)) => (iOrderRow y31 y33) >>= fun (y34 : Int) => if (!(decide (y34 < 0))) = true then (gSlices_symMergeCmpFunc_Simpl_Value_iOrderRow_L5 p1 p2 p3 p0 (IntKind.wrap .i64 ((IntKind.wrap .i64 (Int.fdiv (IntKind.wrap .u64 (IntKind.wrap .i64 (x20_12 + x21_13))) (2 ^ 1))) + 1)) x21_13) else (gSlices_symMergeCmpFunc_Simpl_Value_iOrderRow_L5 p1 p2 p3 p0 x20_12 (IntKind.wrap .i64 (Int.fdiv (IntKind.wrap .u64 (IntKind.wrap .i64 (x20_12 + x21_13))) (2 ^ 1))))) else ((some (if (decide (x20_12 < p2)) = true then (decide (p2 < (IntKind.wrap .i64 ((IntKind.wrap .i64 ((IntKind.wrap .i64 (Int.fdiv (IntKind.wrap .u64 (IntKind.wrap .i64 (p1 + p3))) (2 ^ 1))) + p2)) - x20_12)))) else false)) >>= fun (y35 : Bool) => if y35 = true then ((gSlices_rotateCmpFunc_Simpl_Value_iOrderRow p0 x20_12 p2 (IntKind.wrap .i64 ((IntKind.wrap .i64 ((IntKind.wrap .i64 (Int.fdiv (IntKind.wrap .u64 (IntKind.wrap .i64 (p1 + p3))) (2 ^ 1))) + p2)) - x20_12))) >>= fun (y36 : (List (List GValue))) => gSlices_symMergeCmpFunc_Simpl_Value_iOrderRow_J6 p1 p3 x20_12 p2 y36) else (gSlices_symMergeCmpFunc_Simpl_Value_iOrderRow_J6 p1 p3 x20_12 p2 p0))
  partial_fixpoint
def gSlices_symMergeCmpFunc_Simpl_Value_iOrderRow_J2 (p1 : Int) (p2 : Int) (p3 : Int) (p0 : (List (List GValue))) (x20 : Int) (x21 : Int) : Option (List (List GValue)) :=
  gSlices_symMergeCmpFunc_Simpl_Value_iOrderRow_L5 p1 p2 p3 p0 x20 x21
  partial_fixpoint
def gSlices_symMergeCmpFunc_Simpl_Value_iOrderRow (p0 : (List (List GValue))) (p1 : Int) (p2 : Int) (p3 : Int) : Option (List (List GValue)) :=
  if (decide ((IntKind.wrap .i64 (p2 - p1)) = 1)) = true then (gSlices_symMergeCmpFunc_Simpl_Value_iOrderRow_L0 p1 p0 p2 p3) else (if (decide ((IntKind.wrap .i64 (p3 - p2)) = 1)) = true then (gSlices_symMergeCmpFunc_Simpl_Value_iOrderRow_L1 p2 p0 p1 p2) else (if (decide ((IntKind.wrap .i64 (Int.fdiv (IntKind.wrap .u64 (IntKind.wrap .i64 (p1 + p3))) (2 ^ 1))) < p2)) = true then (gSlices_symMergeCmpFunc_Simpl_Value_iOrderRow_J2 p1 p2 p3 p0 (IntKind.wrap .i64 ((IntKind.wrap .i64 ((IntKind.wrap .i64 (Int.fdiv (IntKind.wrap .u64 (IntKind.wrap .i64 (p1 + p3))) (2 ^ 1))) + p2)) - p3)) (IntKind.wrap .i64 (Int.fdiv (IntKind.wrap .u64 (IntKind.wrap .i64 (p1 + p3))) (2 ^ 1)))) else (gSlices_symMergeCmpFunc_Simpl_Value_iOrderRow_J2 p1 p2 p3 p0 p1 p2)))
  partial_fixpoint
end
mutual
def gSlices_stableCmpFunc_Simpl_Value_iOrderRow_J3 (p1 : Int) (x6 : Int) (b3000000_0_9 : (List (List GValue))) : Option (List (List GValue)) :=
  gSlices_stableCmpFunc_Simpl_Value_iOrderRow_L1 p1 (IntKind.wrap .i64 (x6 * 2)) b3000000_0_9
  partial_fixpoint
def gSlices_stableCmpFunc_Simpl_Value_iOrderRow_L2 (p1 : Int) (x6 : Int) (x7_4 : Int) (x8_5 : Int) (b3000000_0_6 : (List (List GValue))) : Option (List (List GValue)) :=
  if (decide (x8_5 ≤ p1)) = true then ((gSlices_symMergeCmpFunc_Simpl_Value_iOrderRow b3000000_0_6 x7_4 (IntKind.wrap .i64 (x7_4 + x6)) x8_5) >>= fun (y7 : (List (List GValue))) => gSlices_stableCmpFunc_Simpl_Value_iOrderRow_L2 p1 x6 x8_5 (IntKind.wrap .i64 (x8_5 + (IntKind.wrap .i64 (2 * x6)))) y7) else (if (decide ((IntKind.wrap .i64 (x7_4 + x6)) < p1)) = true then ((gSlices_symMergeCmpFunc_Simpl_Value_iOrderRow b3000000_0_6 x7_4 (IntKind.wrap .i64 (x7_4 + x6)) p1) >>= fun (y8 : (List (List GValue))) => gSlices_stableCmpFunc_Simpl_Value_iOrderRow_J3 p1 x6 y8) else (gSlices_stableCmpFunc_Simpl_Value_iOrderRow_J3 p1 x6 b3000000_0_6))
  partial_fixpoint
def gSlices_stableCmpFunc_Simpl_Value_iOrderRow_L1 (p1 : Int) (x6 : Int) (b3000000_0_3 : (List (List GValue))) : Option (List (List GValue)) :=
  if (decide (x6 < p1)) = true then (gSlices_stableCmpFunc_Simpl_Value_iOrderRow_L2 p1 x6 0 (IntKind.wrap .i64 (2 * x6)) b3000000_0_3) else (some b3000000_0_3)
  partial_fixpoint
end
def gSlices_stableCmpFunc_Simpl_Value_iOrderRow_L0 (p1 : Int) (x7 : Int) (x8 : Int) (b3000000_0 : (List (List GValue))) : Option (List (List GValue)) :=
  if (decide (x8 ≤ p1)) = true then ((gSlices_insertionSortCmpFunc_Simpl_Value_iOrderRow b3000000_0 x7 x8) >>= fun (y1 : (List (List GValue))) => gSlices_stableCmpFunc_Simpl_Value_iOrderRow_L0 p1 x8 (IntKind.wrap .i64 (x8 + 20)) y1) else ((gSlices_insertionSortCmpFunc_Simpl_Value_iOrderRow b3000000_0 x7 p1) >>= fun (y2 : (List (List GValue))) => gSlices_stableCmpFunc_Simpl_Value_iOrderRow_L1 p1 20 y2)
  partial_fixpoint
def gSlices_stableCmpFunc_Simpl_Value_iOrderRow (p0 : (List (List GValue))) (p1 : Int) : Option (List (List GValue)) :=
  gSlices_stableCmpFunc_Simpl_Value_iOrderRow_L0 p1 0 20 p0
def gSlices_SortStableFunc_SSimpl_Value_Simpl_Value_iOrderRow (p0 : (List (List GValue))) : Option (List (List GValue)) :=
  (gSlices_stableCmpFunc_Simpl_Value_iOrderRow p0 (p0.length : Int)) >>= fun (y1 : (List (List GValue))) => some y1
def gSlices_Clone_Simpl_Value_impl_Value (p0 : (List GValue)) : Option (List GValue) :=
  if (decide ((p0.length : Int) = 0)) = true then (some ([] : List GValue)) else ((appG 32 ([] : List GValue) p0) >>= fun (y1 : List GValue) => some y1)
def iCopyRows_X_L0 (p0 : (List (List GValue))) (x9 : Int) (b60014000_0 : (List (List GValue))) : Option (List (List GValue)) :=
  if (decide (x9 < (p0.length : Int))) = true then ((idx p0 x9) >>= fun (y1 : (List GValue)) => (gSlices_Clone_Simpl_Value_impl_Value y1) >>= fun (y2 : (List GValue)) => (appG 24 b60014000_0 ([y2] : List (List GValue))) >>= fun (y3 : (List (List GValue))) => iCopyRows_X_L0 p0 (IntKind.wrap .i64 (x9 + 1)) y3) else (some b60014000_0)
  partial_fixpoint
def iCopyRows_X (p0 : (List (List GValue))) : Option (List (List GValue)) :=
  iCopyRows_X_L0 p0 0 ([] : List (List GValue))
def iSortRows (p0 : (List (List GValue))) : Option (List (List GValue)) :=
  (iCopyRows_X p0) >>= fun (y1 : (List (List GValue))) => (gSlices_SortStableFunc_SSimpl_Value_Simpl_Value_iOrderRow y1) >>= fun (y2 : (List (List GValue))) => some y2
def iSameBag (p0 : (List (List GValue))) (p1 : (List (List GValue))) : Option Bool :=
  (iSortRows p0) >>= fun (y1 : (List (List GValue))) => (iSortRows p1) >>= fun (y2 : (List (List GValue))) => (iSameRows y1 y2) >>= fun (y3 : Bool) => some y3
def sL1Byte_J0 (p0 : GL1Cur) (x3 : Int) (b1000000_1 : Int) : Option (Int × GL1Cur) :=
  some (x3, (GL1Cur.mk p0.b b1000000_1 (IntKind.wrap .i64 ((IntKind.wrap .i64 (p0.h * 6364136223846793005)) + 1442695040888963407))))
def sL1Byte (p0 : GL1Cur) : Option (Int × GL1Cur) :=
  if (decide (p0.i < (p0.b.length : Int))) = true then ((idx p0.b p0.i) >>= fun (y1 : Int) => sL1Byte_J0 p0 (IntKind.wrap .i64 ((BitVec.ofInt (IntKind.bits .i64) (IntKind.wrap .i64 ((IntKind.wrap .i64 ((BitVec.ofInt (IntKind.bits .i64) (IntKind.wrap .i64 ((BitVec.ofInt (IntKind.bits .i64) (Int.fdiv (IntKind.wrap .i64 ((IntKind.wrap .i64 (p0.h * 6364136223846793005)) + 1442695040888963407)) (2 ^ 33)) ^^^ BitVec.ofInt (IntKind.bits .i64) (Int.fdiv (IntKind.wrap .i64 ((IntKind.wrap .i64 (p0.h * 6364136223846793005)) + 1442695040888963407)) (2 ^ 45))).toNat : Int)) &&& BitVec.ofInt (IntKind.bits .i64) 255).toNat : Int)) + (IntKind.wrap .i64 y1))) &&& BitVec.ofInt (IntKind.bits .i64) 255).toNat : Int)) (IntKind.wrap .i64 (p0.i + 1))) else (sL1Byte_J0 p0 (IntKind.wrap .i64 ((BitVec.ofInt (IntKind.bits .i64) (IntKind.wrap .i64 ((BitVec.ofInt (IntKind.bits .i64) (Int.fdiv (IntKind.wrap .i64 ((IntKind.wrap .i64 (p0.h * 6364136223846793005)) + 1442695040888963407)) (2 ^ 33)) ^^^ BitVec.ofInt (IntKind.bits .i64) (Int.fdiv (IntKind.wrap .i64 ((IntKind.wrap .i64 (p0.h * 6364136223846793005)) + 1442695040888963407)) (2 ^ 45))).toNat : Int)) &&& BitVec.ofInt (IntKind.bits .i64) 255).toNat : Int)) p0.i)
def sL1Below (p0 : GL1Cur) (p1 : Int) : Option (Int × GL1Cur) :=
  if (decide (p1 ≤ 0)) = true then (some (0, p0)) else (if (decide (p1 ≤ 256)) = true then ((sL1Byte p0) >>= fun (y1 : Int × GL1Cur) => (remG y1.1 p1) >>= fun (y2 : Int) => some (y2, y1.2)) else ((sL1Byte p0) >>= fun (y3 : Int × GL1Cur) => (sL1Byte y3.2) >>= fun (y4 : Int × GL1Cur) => (sL1Byte y4.2) >>= fun (y5 : Int × GL1Cur) => (sL1Byte y5.2) >>= fun (y6 : Int × GL1Cur) => (remG (IntKind.wrap .i64 ((IntKind.wrap .i64 ((IntKind.wrap .i64 ((IntKind.wrap .i64 (y3.1 * 16777216)) + (IntKind.wrap .i64 (y4.1 * 65536)))) + (IntKind.wrap .i64 (y5.1 * 256)))) + y6.1)) p1) >>= fun (y7 : Int) => some (y7, y6.2)))
def sL1New_L0 (p0 : (List Int)) (x3 : Int) (x4 : Int) : Option GL1Cur :=
  (some (if (decide (x4 < (p0.length : Int))) = true then (decide (x4 < 4000)) else false)) >>= fun (y1 : Bool) => if y1 = true then ((idx p0 x4) >>= fun (y2 : Int) => sL1New_L0 p0 (IntKind.wrap .i64 ((BitVec.ofInt (IntKind.bits .i64) (IntKind.wrap .i64 ((IntKind.wrap .i64 ((IntKind.wrap .i64 (x3 * 131)) + (IntKind.wrap .i64 y2))) + 7)) &&& BitVec.ofInt (IntKind.bits .i64) 1073741823).toNat : Int)) (IntKind.wrap .i64 (x4 + 1))) else (some (GL1Cur.mk p0 0 x3))
  partial_fixpoint
def sL1New (p0 : (List Int)) : Option GL1Cur :=
  sL1New_L0 p0 (IntKind.wrap .i64 (28322 + (p0.length : Int))) 0
def sIntValue (p0 : Int) : Option GValue :=
  some (GValue.mk 1 p0 [])
def sBoolValue (p0 : Bool) : Option GValue :=
  if p0 = true then (some (GValue.mk 3 1 [])) else (some (GValue.mk 3 0 []))
def sL1Once (p0 : GL1Cur) (p1 : Int) : Option (Bool × GL1Cur) :=
  (sL1Below p0 p1) >>= fun (y1 : Int × GL1Cur) => some ((decide (y1.1 = 0)), y1.2)
def sL1Pick (p0 : GL1Cur) (p1 : (List (List UInt8))) : Option ((List UInt8) × GL1Cur) :=
  (sL1Below p0 (p1.length : Int)) >>= fun (y1 : Int × GL1Cur) => (idx p1 y1.1) >>= fun (y2 : (List UInt8)) => some (y2, y1.2)
def sL1PickInt (p0 : GL1Cur) (p1 : (List Int)) : Option (Int × GL1Cur) :=
  (sL1Below p0 (p1.length : Int)) >>= fun (y1 : Int × GL1Cur) => (idx p1 y1.1) >>= fun (y2 : Int) => some (y2, y1.2)
def sL1Whole (p0 : GL1Cur) : Option (Int × GL1Cur) :=
  (sL1Below p0 3) >>= fun (y1 : Int × GL1Cur) => if (decide (y1.1 = 0)) = true then ((sL1PickInt y1.2 ([0, 1, (-1), 63, 64, (-64), (-65), 127, 128, 16383, 16384, 9223372036854775807, (-9223372036854775808), 4611686018427387904] : List Int)) >>= fun (y2 : Int × GL1Cur) => some (y2.1, y2.2)) else (if (decide (y1.1 = 1)) = true then ((sL1Below y1.2 1000000) >>= fun (y3 : Int × GL1Cur) => some ((IntKind.wrap .i64 (y3.1 - 500000)), y3.2)) else ((sL1Below y1.2 20) >>= fun (y4 : Int × GL1Cur) => some (y4.1, y4.2)))
def sTextValue (p0 : (List UInt8)) : Option GValue :=
  some (GValue.mk 2 0 p0)
def sL6Typed (p0 : GL1Cur) (p1 : Int) : Option (GValue × GL1Cur) :=
  (sL1Once p0 6) >>= fun (y1 : Bool × GL1Cur) => if y1.1 = true then (some ((GValue.mk 0 0 []), y1.2)) else (if (decide (p1 = 2)) = true then ((sL1Pick y1.2 ([[], [97], [98], [97, 98]] : List (List UInt8))) >>= fun (y2 : (List UInt8) × GL1Cur) => (sTextValue y2.1) >>= fun (y3 : GValue) => some (y3, y2.2)) else (if (decide (p1 = 3)) = true then ((sL1Once y1.2 2) >>= fun (y4 : Bool × GL1Cur) => (sBoolValue y4.1) >>= fun (y5 : GValue) => some (y5, y4.2)) else ((sL1Whole y1.2) >>= fun (y6 : Int × GL1Cur) => (sIntValue y6.1) >>= fun (y7 : GValue) => some (y7, y6.2))))
def sL26Rows_L0 (y1 : Int × GL1Cur) (x3 : (List (List GValue))) (x5 : Int) (b1000000_0 : (List Int)) (b1000000_1 : Int) (b1000000_2 : Int) : Option ((List (List GValue)) × GL1Cur) :=
  if (decide (x5 < y1.1)) = true then ((sL1Below (GL1Cur.mk b1000000_0 b1000000_1 b1000000_2) 3) >>= fun (y2 : Int × GL1Cur) => (sIntValue y2.1) >>= fun (y3 : GValue) => (sL1Below y2.2 3) >>= fun (y4 : Int × GL1Cur) => (sL6Typed y4.2 (IntKind.wrap .i64 (1 + y4.1))) >>= fun (y5 : GValue × GL1Cur) => (sL1Below y5.2 2) >>= fun (y6 : Int × GL1Cur) => (subl ([y3, y5.1] : List GValue) 0 (IntKind.wrap .i64 (1 + y6.1))) >>= fun (y7 : (List GValue)) => (appG 24 x3 ([y7] : List (List GValue))) >>= fun (y8 : List (List GValue)) => sL26Rows_L0 y1 y8 (IntKind.wrap .i64 (x5 + 1)) y6.2.b y6.2.i y6.2.h) else (some (x3, (GL1Cur.mk b1000000_0 b1000000_1 b1000000_2)))
  partial_fixpoint
def sL26Rows (p0 : GL1Cur) : Option ((List (List GValue)) × GL1Cur) :=
  (sL1Below p0 6) >>= fun (y1 : Int × GL1Cur) => sL26Rows_L0 y1 ([] : List (List GValue)) 0 y1.2.b y1.2.i y1.2.h
def sL26Two_J0 (y2 : (List (List GValue)) × GL1Cur) (x6 : (List (List GValue))) : Option ((List (List GValue)) × (List (List GValue))) :=
  some (y2.1, x6)
def sL5Row (p0 : (List GValue)) : Option (List GValue) :=
  (appG 32 ([] : List GValue) p0) >>= fun (y1 : List GValue) => some y1
def sL5Rows_X_L0 (p0 : (List (List GValue))) (x4 : Int) (b60012000_0 : (List (List GValue))) : Option (List (List GValue)) :=
  if (decide (x4 < (p0.length : Int))) = true then ((idx p0 x4) >>= fun (y1 : (List GValue)) => (sL5Row y1) >>= fun (y2 : (List GValue)) => (appG 24 b60012000_0 ([y2] : List (List GValue))) >>= fun (y3 : (List (List GValue))) => sL5Rows_X_L0 p0 (IntKind.wrap .i64 (x4 + 1)) y3) else (some b60012000_0)
  partial_fixpoint
def sL5Rows_X (p0 : (List (List GValue))) : Option (List (List GValue)) :=
  sL5Rows_X_L0 p0 0 ([] : List (List GValue))
def sOrder (p0 : GValue) (p1 : GValue) : Option Int :=
  if (decide (p0.kind < p1.kind)) = true then (some (-1)) else (if (decide (p1.kind < p0.kind)) = true then (some 1) else (if (decide (p0.num < p1.num)) = true then (some (-1)) else (if (decide (p1.num < p0.num)) = true then (some 1) else (if (Op.bytesLess p0.text p1.text) = true then (some (-1)) else (if (!(Op.bytesLess p0.text p1.text || decide (p0.text = p1.text))) = true then (some 1) else (some 0))))))
def sOrderRow_L0 (p0 : (List GValue)) (p1 : (List GValue)) (x5 : Int) : Option Int :=
  (some (if (decide (x5 < (p0.length : Int))) = true then (decide (x5 < (p1.length : Int))) else false)) >>= fun (y1 : Bool) => if y1 = true then ((idx p0 x5) >>= fun (y2 : GValue) => (idx p1 x5) >>= fun (y3 : GValue) => (sOrder y2 y3) >>= fun (y4 : Int) => if (!decide (y4 = 0)) = true then (some y4) else (sOrderRow_L0 p0 p1 (IntKind.wrap .i64 (x5 + 1)))) else (if (decide ((p0.length : Int) < (p1.length : Int))) = true then (some (-1)) else (if (decide ((p1.length : Int) < (p0.length : Int))) = true then (some 1) else (some 0)))
  partial_fixpoint
def sOrderRow (p0 : (List GValue)) (p1 : (List GValue)) : Option Int :=
  sOrderRow_L0 p0 p1 0
mutual
def sSortRows_L1 (p0 : (List (List GValue))) (x3 : (List (List GValue))) (x4 : Int) (x5 : Int) : Option (List (List GValue)) :=
  (if (true && ((decide (0 < x5)) == true)) = true then idx x3 (IntKind.wrap .i64 (x5 - 1)) else some default) >>= fun (y1 : (List GValue)) => (if (true && ((decide (0 < x5)) == true)) = true then idx p0 x4 else some default) >>= fun (y2 : (List GValue)) => (if (true && ((decide (0 < x5)) == true)) = true then sOrderRow y1 y2 else some default) >>= fun (y3 : Int) => (some (if (decide (0 < x5)) = true then (decide (0 < y3)) else false)) >>= fun (y4 : Bool) => if y4 = true then (sSortRows_L1 p0 x3 x4 (IntKind.wrap .i64 (x5 - 1))) else ((subl x3 0 x5) >>= fun (y5 : (List (List GValue))) => (appG 24 ([] : List (List GValue)) y5) >>= fun (y6 : List (List GValue)) => (idx p0 x4) >>= fun (y7 : (List GValue)) => (sL5Row y7) >>= fun (y8 : (List GValue)) => (appG 24 y6 ([y8] : List (List GValue))) >>= fun (y9 : List (List GValue)) => (subl x3 x5 (x3.length : Int)) >>= fun (y10 : (List (List GValue))) => (appG 24 y9 y10) >>= fun (y11 : List (List GValue)) => sSortRows_L0 p0 y11 (IntKind.wrap .i64 (x4 + 1)))
  partial_fixpoint
def sSortRows_L0 (p0 : (List (List GValue))) (x3 : (List (List GValue))) (x4 : Int) : Option (List (List GValue)) :=
  if (decide (x4 < (p0.length : Int))) = true then (sSortRows_L1 p0 x3 x4 (x3.length : Int)) else (some x3)
  partial_fixpoint
end
def sSortRows (p0 : (List (List GValue))) : Option (List (List GValue)) :=
  sSortRows_L0 p0 ([] : List (List GValue)) 0
def sL26Two (p0 : (List Int)) : Option ((List (List GValue)) × (List (List GValue))) :=
  (sL1New p0) >>= fun (y1 : GL1Cur) => (sL26Rows y1) >>= fun (y2 : (List (List GValue)) × GL1Cur) => (sL5Rows_X y2.1) >>= fun (y3 : (List (List GValue))) => (sL1Below y2.2 4) >>= fun (y4 : Int × GL1Cur) => if (decide (y4.1 = 0)) = true then ((sL26Rows y4.2) >>= fun (y5 : (List (List GValue)) × GL1Cur) => sL26Two_J0 y2 y5.1) else (if (decide (y4.1 = 1)) = true then ((sSortRows y3) >>= fun (y6 : (List (List GValue))) => sL26Two_J0 y2 y6) else (if (decide (y4.1 = 2)) = true then (if (decide (1 < (y3.length : Int))) = true then ((idx y3 1) >>= fun (y7 : (List GValue)) => (idx y3 1) >>= fun (y8 : (List GValue)) => (idx y3 0) >>= fun (y9 : (List GValue)) => (setG y3 0 y8) >>= fun (y10 : (List (List GValue))) => sL26Two_J0 y2 y10) else (sL26Two_J0 y2 y3)) else (sL26Two_J0 y2 y3)))
def sDrawSameBag (p0 : (List Int)) : Option ((List (List GValue)) × (List (List GValue))) :=
  (sL26Two p0) >>= fun (y1 : (List (List GValue)) × (List (List GValue))) => some (y1.1, y1.2)
def sL5SameRow_L0 (p0 : (List GValue)) (p1 : (List GValue)) (x5 : Int) : Option Bool :=
  if (decide (x5 < (p0.length : Int))) = true then ((idx p0 x5) >>= fun (y1 : GValue) => (idx p1 x5) >>= fun (y2 : GValue) => if (!((decide (y1.kind = y2.kind)) && ((decide (y1.num = y2.num)) && ((decide (y1.text = y2.text)) && true)))) = true then (some false) else (sL5SameRow_L0 p0 p1 (IntKind.wrap .i64 (x5 + 1)))) else (some true)
  partial_fixpoint
def sL5SameRow (p0 : (List GValue)) (p1 : (List GValue)) : Option Bool :=
  if (!decide ((p0.length : Int) = (p1.length : Int))) = true then (some false) else (sL5SameRow_L0 p0 p1 0)
def sSameRows_L0 (p0 : (List (List GValue))) (p1 : (List (List GValue))) (x5 : Int) : Option Bool :=
  if (decide (x5 < (p0.length : Int))) = true then ((idx p0 x5) >>= fun (y1 : (List GValue)) => (idx p1 x5) >>= fun (y2 : (List GValue)) => (sL5SameRow y1 y2) >>= fun (y3 : Bool) => if (!y3) = true then (some false) else (sSameRows_L0 p0 p1 (IntKind.wrap .i64 (x5 + 1)))) else (some true)
  partial_fixpoint
def sSameRows (p0 : (List (List GValue))) (p1 : (List (List GValue))) : Option Bool :=
  if (!decide ((p0.length : Int) = (p1.length : Int))) = true then (some false) else (sSameRows_L0 p0 p1 0)
def sSameBag (p0 : (List (List GValue))) (p1 : (List (List GValue))) : Option Bool :=
  (sSortRows p0) >>= fun (y1 : (List (List GValue))) => (sSortRows p1) >>= fun (y2 : (List (List GValue))) => (sSameRows y1 y2) >>= fun (y3 : Bool) => some y3
def wBig (p0 : (List Int)) : Option Bool :=
  some (decide (1048576 < (p0.length : Int)))
def wFnBags_L0 (y2 : (List (List GValue)) × (List (List GValue))) (x6 : (List (List GValue))) (x7 : Int) : Option Bool :=
  if (decide (0 ≤ x7)) = true then ((idx y2.1 x7) >>= fun (y10 : (List GValue)) => (appG 24 x6 ([y10] : List (List GValue))) >>= fun (y11 : List (List GValue)) => wFnBags_L0 y2 y11 (IntKind.wrap .i64 (x7 - 1))) else ((iSameBag y2.1 x6) >>= fun (y12 : Bool) => (if ((true && (y12 == true)) && ((decide ((y2.1.length : Int) = 0)) == false)) = true then idx y2.1 0 else some default) >>= fun (y13 : (List GValue)) => (if ((true && (y12 == true)) && ((decide ((y2.1.length : Int) = 0)) == false)) = true then appG 24 x6 ([y13] : List (List GValue)) else some default) >>= fun (y14 : (List (List GValue))) => (if ((true && (y12 == true)) && ((decide ((y2.1.length : Int) = 0)) == false)) = true then iSameBag y2.1 y14 else some default) >>= fun (y15 : Bool) => (if (true && (y12 == true)) = true then some (if (decide ((y2.1.length : Int) = 0)) = true then true else (!y15)) else some default) >>= fun (y16 : Bool) => (some (if y12 = true then y16 else false)) >>= fun (y17 : Bool) => some y17)
  partial_fixpoint
def wFnBags (p0 : (List Int)) : Option Bool :=
  (wBig p0) >>= fun (y1 : Bool) => if y1 = true then (some true) else ((sDrawSameBag p0) >>= fun (y2 : (List (List GValue)) × (List (List GValue))) => (iSameBag y2.1 y2.2) >>= fun (y3 : Bool) => (sSameBag y2.1 y2.2) >>= fun (y4 : Bool) => (if (true && ((!(y3 == y4)) == false)) = true then iSameBag y2.2 y2.1 else some default) >>= fun (y5 : Bool) => (some (if (!(y3 == y4)) = true then true else (!(y3 == y5)))) >>= fun (y6 : Bool) => (if (true && (y6 == false)) = true then iSameRows y2.1 y2.2 else some default) >>= fun (y7 : Bool) => (if (true && (y6 == false)) = true then some (if y7 = true then (!y3) else false) else some default) >>= fun (y8 : Bool) => (some (if y6 = true then true else y8)) >>= fun (y9 : Bool) => if y9 = true then (some false) else (wFnBags_L0 y2 ([] : List (List GValue)) (IntKind.wrap .i64 ((y2.1.length : Int) - 1))))
end Go.Ab
