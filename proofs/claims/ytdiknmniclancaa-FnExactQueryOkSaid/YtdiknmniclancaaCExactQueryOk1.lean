/- That the code computes these functions (printed by a program). -/
import Derived.Test.YtdiknmniclancaaCExactQueryOk0
namespace Go.Proofs.Ytdiknmniclancaa
open Go Go.RowKit Go.Ab
theorem OKs_iIsFormed_1 : (∀ (p0 : GQuery) (r : Bool), iIsFormed_1 p0 = some r → ACalls Try.prog 141 [(vGQuery p0)] [] fun x _ => x = (fun y => (vB y)) r) ∧ (∀ (p0 : GQuery) (r : Bool), iIsFormedQuery p0 = some r → ACalls Try.prog 86 [(vGQuery p0)] [] fun x _ => x = (fun y => (vB y)) r) ∧ (∀ (p0 : GQuery) (x49 : Int) (r : Bool), iIsFormedQuery_L0 p0 x49 = some r → avc Try.prog aciIsFormedQuery_L0 (qiIsFormedQuery_1 r) (stiIsFormedQuery_L0 p0 x49)) ∧ (∀ (p0 : GQuery) (x92 : Int) (r : Bool), iIsFormedQuery_L1 p0 x92 = some r → avc Try.prog aciIsFormedQuery_L1 (qiIsFormedQuery_3 r) (stiIsFormedQuery_L1 p0 x92)) ∧ (∀ (p0 : (List GExpr)) (r : Bool), iAreFormed p0 = some r → ACalls Try.prog 139 [(.d (.sl 10 (p0.map cGExpr)))] [] fun x _ => x = (fun y => (vB y)) r) ∧ (∀ (p0 : (List GExpr)) (r : Bool), gSlices_ContainsFunc_Simpl_Expr_impl_Expr_iAreFormed_1 p0 = some r → ACalls Try.prog 185 [(.d (.sl 10 (p0.map cGExpr))), (.fn 186 [])] [] fun x _ => x = (fun y => (vB y)) r) ∧ (∀ (p0 : (List GExpr)) (r : Int), gSlices_IndexFunc_Simpl_Expr_impl_Expr_iAreFormed_1 p0 = some r → ACalls Try.prog 210 [(.d (.sl 10 (p0.map cGExpr))), (.fn 186 [])] [] fun x _ => x = (fun y => (vI y)) r) ∧ (∀ (p0 : (List GExpr)) (x8 : Int) (r : Int), gSlices_IndexFunc_Simpl_Expr_impl_Expr_iAreFormed_1_L0 p0 x8 = some r → avc Try.prog acgSlices_IndexFunc_Simpl_Expr_impl_Expr_iAreFormed_1_L0 (qgSlices_IndexFunc_Simpl_Expr_impl_Expr_iAreFormed_1_1 r) (stgSlices_IndexFunc_Simpl_Expr_impl_Expr_iAreFormed_1_L0 p0 x8)) ∧ (∀ (p0 : GExpr) (r : Bool), iAreFormed_1 p0 = some r → ACalls Try.prog 186 [(vGExpr p0)] [] fun x _ => x = (fun y => (vB y)) r) ∧ (∀ (p0 : GExpr) (r : Bool), iIsFormed p0 = some r → ACalls Try.prog 82 [(vGExpr p0)] [] fun x _ => x = (fun y => (vB y)) r) ∧ (∀ (p0 : (List GQuery)) (r : Bool), gSlices_ContainsFunc_Simpl_Query_impl_Query_iIsFormed_1 p0 = some r → ACalls Try.prog 140 [(.d (.sl 6 (p0.map cGQuery))), (.fn 141 [])] [] fun x _ => x = (fun y => (vB y)) r) ∧ (∀ (p0 : (List GQuery)) (r : Int), gSlices_IndexFunc_Simpl_Query_impl_Query_iIsFormed_1 p0 = some r → ACalls Try.prog 187 [(.d (.sl 6 (p0.map cGQuery))), (.fn 141 [])] [] fun x _ => x = (fun y => (vI y)) r) ∧ (∀ (p0 : (List GQuery)) (x8 : Int) (r : Int), gSlices_IndexFunc_Simpl_Query_impl_Query_iIsFormed_1_L0 p0 x8 = some r → avc Try.prog acgSlices_IndexFunc_Simpl_Query_impl_Query_iIsFormed_1_L0 (qgSlices_IndexFunc_Simpl_Query_impl_Query_iIsFormed_1_1 r) (stgSlices_IndexFunc_Simpl_Query_impl_Query_iIsFormed_1_L0 p0 x8)) := by
 refine iIsFormed_1.mutual_partial_correctness (fun p0 r => ACalls Try.prog 141 [(vGQuery p0)] [] fun x _ => x = (fun y => (vB y)) r) (fun p0 r => ACalls Try.prog 86 [(vGQuery p0)] [] fun x _ => x = (fun y => (vB y)) r) (fun p0 x49 r => avc Try.prog aciIsFormedQuery_L0 (qiIsFormedQuery_1 r) (stiIsFormedQuery_L0 p0 x49)) (fun p0 x92 r => avc Try.prog aciIsFormedQuery_L1 (qiIsFormedQuery_3 r) (stiIsFormedQuery_L1 p0 x92)) (fun p0 r => ACalls Try.prog 139 [(.d (.sl 10 (p0.map cGExpr)))] [] fun x _ => x = (fun y => (vB y)) r) (fun p0 r => ACalls Try.prog 185 [(.d (.sl 10 (p0.map cGExpr))), (.fn 186 [])] [] fun x _ => x = (fun y => (vB y)) r) (fun p0 r => ACalls Try.prog 210 [(.d (.sl 10 (p0.map cGExpr))), (.fn 186 [])] [] fun x _ => x = (fun y => (vI y)) r) (fun p0 x8 r => avc Try.prog acgSlices_IndexFunc_Simpl_Expr_impl_Expr_iAreFormed_1_L0 (qgSlices_IndexFunc_Simpl_Expr_impl_Expr_iAreFormed_1_1 r) (stgSlices_IndexFunc_Simpl_Expr_impl_Expr_iAreFormed_1_L0 p0 x8)) (fun p0 r => ACalls Try.prog 186 [(vGExpr p0)] [] fun x _ => x = (fun y => (vB y)) r) (fun p0 r => ACalls Try.prog 82 [(vGExpr p0)] [] fun x _ => x = (fun y => (vB y)) r) (fun p0 r => ACalls Try.prog 140 [(.d (.sl 6 (p0.map cGQuery))), (.fn 141 [])] [] fun x _ => x = (fun y => (vB y)) r) (fun p0 r => ACalls Try.prog 187 [(.d (.sl 6 (p0.map cGQuery))), (.fn 141 [])] [] fun x _ => x = (fun y => (vI y)) r) (fun p0 x8 r => avc Try.prog acgSlices_IndexFunc_Simpl_Query_impl_Query_iIsFormed_1_L0 (qgSlices_IndexFunc_Simpl_Query_impl_Query_iIsFormed_1_1 r) (stgSlices_IndexFunc_Simpl_Query_impl_Query_iIsFormed_1_L0 p0 x8)) ?_ ?_ ?_ ?_ ?_ ?_ ?_ ?_ ?_ ?_ ?_ ?_ ?_
 · intro F_iIsFormedQuery OK_iIsFormedQuery p0 r h
   refine acalls_of_fn triIsFormed_1 (Nat.le_of_ble_eq_true rfl) (by simp) ?_
   show avc Try.prog aciIsFormed_1 (qiIsFormed_1 _) ⟨[(0, (vGQuery p0))], []⟩
   delta aciIsFormed_1
   refine so ?_
   let a0 : St := ⟨[(2, (vB false)), (1, (.ptr 1 0)), (0, (vGQuery p0))], [(1, bGQuery p0)]⟩
   refine st 2 a0 (nx (so ?_))
   let a1 : St := a0.p [(3, (vGQuery p0))]
   refine st 1 a1 (cs h (OK_iIsFormedQuery p0) fun y1 h => ?_)
   let a2 : St := a1.p [(2, (vB (!y1))), (5, (vB (!y1))), (4, (vB y1))]
   refine st 2 a2 (nx (ri ?_))
   injection h with h; subst h
   exact ret1_step (v := (vB (!y1))) (by kernel_rfl) (by kernel_rfl) (by kernel_rfl)
 · intro F_iIsFormedQuery_L0 OK_iIsFormedQuery_L0 p0 r h
   refine acalls_of_fn triIsFormedQuery (Nat.le_of_ble_eq_true rfl) (by simp) ?_
   show avc Try.prog aciIsFormedQuery (qiIsFormedQuery _) ⟨[(0, (vGQuery p0))], []⟩
   delta aciIsFormedQuery
   refine so ?_
   let a0 : St := ⟨[(2, (vB false)), (1, (.ptr 1 0)), (0, (vGQuery p0))], [(1, bGQuery p0)]⟩
   refine st 2 a0 (nx (si (so ?_)))
   let a1 : St := a0.p [(8, (.d (.sl 13 (p0.items.map cGItem)))), (7, (.ptr 1 1))]
   refine st 2 a1 (ps (vI (p0.items.length : Int)) (vop_len (sz := 13) (l := p0.items) (f := cGItem) (by kernel_rfl) (by kernel_rfl)) ?_)
   let a2 : St := a1.p [(11, (vB (decide ((p0.items.length : Int) < 1)))), (10, (vB (decide ((p0.items.length : Int) < 1)))), (9, (vI (p0.items.length : Int)))]
   refine st 2 a2 (gp true (decide ((p0.items.length : Int) < 1)) (.ptr 1 1) (fun hc => vl) (gp true (decide ((p0.items.length : Int) < 1)) (.d (.sl 13 (p0.items.map cGItem))) (fun hc => vg hc) ?_))
   refine gp true (decide ((p0.items.length : Int) < 1)) (vI (p0.items.length : Int)) (fun hc => vop_len (sz := 13) (l := p0.items) (f := cGItem) (Eq.trans (b := ([(true && ((decide ((p0.items.length : Int) < 1)) == false))] : List Bool).all id) (by kernel_rfl) (all_c hc rfl)) (by kernel_rfl)) (gp true (decide ((p0.items.length : Int) < 1)) (vB (decide (12 < (p0.items.length : Int)))) (fun hc => vg hc) ?_)
   refine vs (fun (y : Bool) => (vB y)) h (fun y hy => vop_pickV hy (p := true) (q := (true && ((decide ((p0.items.length : Int) < 1)) == false))) (by kernel_rfl) (by kernel_rfl) (by kernel_rfl) (by kernel_rfl) (fun _ => rfl) (fun hb => gc_f rfl hb)) fun y1 h => ?_
   let a3 : St := a2.p [(17, (vB y1)), (16, (vB y1)), (15, (.ite (true && ((decide ((p0.items.length : Int) < 1)) == false)) (vB (decide (12 < (p0.items.length : Int)))))), (14, (.ite (true && ((decide ((p0.items.length : Int) < 1)) == false)) (vI (p0.items.length : Int)))), (13, (.ite (true && ((decide ((p0.items.length : Int) < 1)) == false)) (.d (.sl 13 (p0.items.map cGItem))))), (12, (.ite (true && ((decide ((p0.items.length : Int) < 1)) == false)) (.ptr 1 1)))]
   refine st 1 a3 (gp true y1 (.ptr 1 2) (fun hc => vl) (gp true y1 (.d (.sl 3 (p0.from_.map cGSource))) (fun hc => vg hc) (gp true y1 (vI (p0.from_.length : Int)) (fun hc => vop_len (sz := 3) (l := p0.from_) (f := cGSource) (Eq.trans (b := ([(true && (y1 == false))] : List Bool).all id) (by kernel_rfl) (all_c hc rfl)) (by kernel_rfl)) (gp true y1 (vB (decide ((p0.from_.length : Int) < 1))) (fun hc => vg hc) ?_))))
   refine vs (fun (y : Bool) => (vB y)) h (fun y hy => vop_pickV hy (p := true) (q := (true && (y1 == false))) (by kernel_rfl) (by kernel_rfl) (by kernel_rfl) (by kernel_rfl) (fun _ => rfl) (fun hb => gc_f rfl hb)) fun y2 h => ?_
   let a4 : St := a3.p [(23, (vB y2)), (22, (vB y2)), (21, (.ite (gF y1) (vB (decide ((p0.from_.length : Int) < 1))))), (20, (.ite (gF y1) (vI (p0.from_.length : Int)))), (19, (.ite (gF y1) (.d (.sl 3 (p0.from_.map cGSource))))), (18, (.ite (gF y1) (.ptr 1 2)))]
   refine st 1 a4 (gp true y2 (.ptr 1 2) (fun hc => vl) (gp true y2 (.d (.sl 3 (p0.from_.map cGSource))) (fun hc => vg hc) (gp true y2 (vI (p0.from_.length : Int)) (fun hc => vop_len (sz := 3) (l := p0.from_) (f := cGSource) (Eq.trans (b := ([(true && (y2 == false))] : List Bool).all id) (by kernel_rfl) (all_c hc rfl)) (by kernel_rfl)) (gp true y2 (vB (decide (3 < (p0.from_.length : Int)))) (fun hc => vg hc) ?_))))
   refine vs (fun (y : Bool) => (vB y)) h (fun y hy => vop_pickV hy (p := true) (q := (true && (y2 == false))) (by kernel_rfl) (by kernel_rfl) (by kernel_rfl) (by kernel_rfl) (fun _ => rfl) (fun hb => gc_f rfl hb)) fun y3 h => ?_
   let a5 : St := a4.p [(29, (vB y3)), (28, (vB y3)), (27, (.ite (gF y2) (vB (decide (3 < (p0.from_.length : Int)))))), (26, (.ite (gF y2) (vI (p0.from_.length : Int)))), (25, (.ite (gF y2) (.d (.sl 3 (p0.from_.map cGSource))))), (24, (.ite (gF y2) (.ptr 1 2)))]
   refine st 1 a5 (gp true y3 (.ptr 1 3) (fun hc => vl) (gp true y3 (.d (.sl 10 (p0.where_.map cGExpr))) (fun hc => vg hc) (gp true y3 (vI (p0.where_.length : Int)) (fun hc => vop_len (sz := 10) (l := p0.where_) (f := cGExpr) (Eq.trans (b := ([(true && (y3 == false))] : List Bool).all id) (by kernel_rfl) (all_c hc rfl)) (by kernel_rfl)) (gp true y3 (vB (decide (1 < (p0.where_.length : Int)))) (fun hc => vg hc) ?_))))
   refine vs (fun (y : Bool) => (vB y)) h (fun y hy => vop_pickV hy (p := true) (q := (true && (y3 == false))) (by kernel_rfl) (by kernel_rfl) (by kernel_rfl) (by kernel_rfl) (fun _ => rfl) (fun hb => gc_f rfl hb)) fun y4 h => ?_
   let a6 : St := a5.p [(35, (vB y4)), (34, (vB y4)), (33, (.ite (gF y3) (vB (decide (1 < (p0.where_.length : Int)))))), (32, (.ite (gF y3) (vI (p0.where_.length : Int)))), (31, (.ite (gF y3) (.d (.sl 10 (p0.where_.map cGExpr))))), (30, (.ite (gF y3) (.ptr 1 3)))]
   refine st 1 a6 (gp true y4 (.ptr 1 4) (fun hc => vl) (gp true y4 (.d (.sl 11 (p0.order.map cGSortKey))) (fun hc => vg hc) (gp true y4 (vI (p0.order.length : Int)) (fun hc => vop_len (sz := 11) (l := p0.order) (f := cGSortKey) (Eq.trans (b := ([(true && (y4 == false))] : List Bool).all id) (by kernel_rfl) (all_c hc rfl)) (by kernel_rfl)) (gp true y4 (vB (decide (12 < (p0.order.length : Int)))) (fun hc => vg hc) ?_))))
   refine vs (fun (y : Bool) => (vB y)) h (fun y hy => vop_pickV hy (p := true) (q := (true && (y4 == false))) (by kernel_rfl) (by kernel_rfl) (by kernel_rfl) (by kernel_rfl) (fun _ => rfl) (fun hb => gc_f rfl hb)) fun y5 h => ?_
   let a7 : St := a6.p [(41, (vB y5)), (40, (vB y5)), (39, (.ite (gF y4) (vB (decide (12 < (p0.order.length : Int)))))), (38, (.ite (gF y4) (vI (p0.order.length : Int)))), (37, (.ite (gF y4) (.d (.sl 11 (p0.order.map cGSortKey))))), (36, (.ite (gF y4) (.ptr 1 4)))]
   refine st 1 a7 (gp true y5 (.ptr 1 5) (fun hc => vl) (gp true y5 (vI p0.limit) (fun hc => vg hc) (gp true y5 (vB (decide (p0.limit < (-1)))) (fun hc => vg hc) (vs (fun (y : Bool) => (vB y)) h (fun y hy => vop_pickV hy (p := true) (q := (true && (y5 == false))) (by kernel_rfl) (by kernel_rfl) (by kernel_rfl) (by kernel_rfl) (fun _ => rfl) (fun hb => gc_f rfl hb)) fun y6 h => (nx ?_)))))
   refine cd h (fun h => ?_) fun h => ?_
   refine so ?_
   let a8 : St := a7.p [(2, (vB false)), (45, (vB y6)), (44, (.ite (gF y5) (vB (decide (p0.limit < (-1)))))), (43, (.ite (gF y5) (vI p0.limit))), (42, (.ite (gF y5) (.ptr 1 5)))]
   refine st 1 a8 (nx (ri (tr ?_)))
   injection h with h; subst h
   exact ret1_step (v := (vB false)) (by kernel_rfl) (by kernel_rfl) (by kernel_rfl)
   refine ki (xi (si (so ?_)))
   let a9 : St := a7.p [(47, (.d (.sl 13 (p0.items.map cGItem)))), (46, (.ptr 1 1)), (45, (vB y6)), (44, (.ite (gF y5) (vB (decide (p0.limit < (-1)))))), (43, (.ite (gF y5) (vI p0.limit))), (42, (.ite (gF y5) (.ptr 1 5)))]
   refine st 2 a9 (ps (vI (p0.items.length : Int)) (vop_len (sz := 13) (l := p0.items) (f := cGItem) (by kernel_rfl) (by kernel_rfl)) ?_)
   let a10 : St := a9.p [(49, (vI 0)), (48, (vI (p0.items.length : Int)))]
   exact st 1 a10 (nx (bi (loop_go (s' := stiIsFormedQuery_L0 p0 0) (wr [] (es (es (es (es er_nil)))) (bs_ br_nil)) (OK_iIsFormedQuery_L0 p0 0 _ h))))
 · intro F_iIsFormedQuery_L0 F_iIsFormedQuery_L1 OK_iIsFormedQuery_L0 OK_iIsFormedQuery_L1 p0 x49 r h
   delta aciIsFormedQuery_L0
   refine loop_unroll (so ?_)
   let a11 : St := (stiIsFormedQuery_L0 p0 x49).p [(50, (vB (decide (x49 < (p0.items.length : Int)))))]
   refine st 1 a11 (nx (si ?_))
   refine cd h (fun h => ?_) fun h => ?_
   refine ki (xi (si (bi (so (vs (fun (y : GItem) => (.rp (oGItem y))) h (fun y hy => vop_ia (l := p0.items) (f := cGItem) (g := oGItem) (k := .i64) hy cGItem_eq (by kernel_rfl) (by kernel_rfl) (by kernel_rfl)) fun y7 h => ?_)))))
   let a12 : St := ⟨(4, (.ptr 4 0)) :: (52, (vGItem y7)) :: (51, (.rp (oGItem y7))) :: a11.env, [(4, bGItem y7), (1, bGQuery p0)]⟩
   refine st 3 a12 (nx (so ?_))
   let a13 : St := a12.p [(55, (vB y7.star)), (54, (vB y7.star)), (53, (.ptr 4 0))]
   refine st 3 a13 (gp true y7.star (.ptr 4 1) (fun hc => vl) (gp true y7.star (vS y7.qual) (fun hc => vg hc) ?_))
   refine gcall_step (p := true) (b := y7.star) (m := iIsAs y7.qual) (dflt := default) (args := [(vS y7.qual)]) (v' := (fun y => (vB y))) h (by kernel_rfl) (OK_iIsAs y7.qual) (fun hc => by kernel_rfl) (by kernel_rfl) (fun _ => rfl) (fun hc => (Eq.trans (b := ([(true && (y7.star == true))] : List Bool).all id) (by kernel_rfl) (all_c hc rfl))) ?_
   clear h; intro y8 h
   refine gp true y7.star (vB (!y8)) (fun hc => vg hc) (gp true y7.star (vB (!y8)) (fun hc => vg hc) (gp (true && (y7.star == true)) (!y8) (.ptr 4 12) (fun hc => vl) (gp (true && (y7.star == true)) (!y8) (vS y7.as_) (fun hc => vg hc) (gp (true && (y7.star == true)) (!y8) (vB (!decide (y7.as_ = []))) (fun hc => vg hc) ?_))))
   refine gv true y7.star (fun (y : Bool) => (vB y)) h (fun y hy hc => vop_pickV hy (p := true) (q := ((true && (y7.star == true)) && ((!y8) == false))) (Eq.trans (b := ([(true && (y7.star == true))] : List Bool).all id) (by kernel_rfl) (all_c hc rfl)) (by kernel_rfl) (by kernel_rfl) (by kernel_rfl) (fun _ => rfl) (fun hb => gc_f hc hb)) fun y9 h => (gp true y7.star (vB y9) (fun hc => vg hc) ?_)
   refine gp (true && (y7.star == true)) y9 (.ptr 4 2) (fun hc => vl) (gp (true && (y7.star == true)) y9 (vGExpr y7.expr) (fun hc => vg hc) ?_)
   refine gcall_step (p := (true && (y7.star == true))) (b := y9) (m := iIsZero y7.expr) (dflt := default) (args := [(vGExpr y7.expr)]) (v' := (fun y => (vB y))) h (by kernel_rfl) (OK_iIsZero y7.expr) (fun hc => by kernel_rfl) (by kernel_rfl) (fun _ => rfl) (fun hc => (Eq.trans (b := ([((true && (y7.star == true)) && (y9 == false))] : List Bool).all id) (by kernel_rfl) (all_c hc rfl))) ?_
   clear h; intro y10 h
   refine gp (true && (y7.star == true)) y9 (vB (!y10)) (fun hc => vg hc) ?_
   refine gv true y7.star (fun (y : Bool) => (vB y)) h (fun y hy hc => vop_pickV hy (p := true) (q := ((true && (y7.star == true)) && (y9 == false))) (Eq.trans (b := ([(true && (y7.star == true))] : List Bool).all id) (by kernel_rfl) (all_c hc rfl)) (by kernel_rfl) (by kernel_rfl) (by kernel_rfl) (fun _ => rfl) (fun hb => gc_f hc hb)) fun y11 h => ?_
   refine vs (fun (y : Bool) => (vB y)) h (fun y hy => vop_pickV hy (p := (true && (y7.star == true))) (q := true) (by kernel_rfl) (by kernel_rfl) (by kernel_rfl) (by kernel_rfl) (fun hb => gc_t rfl hb) (fun _ => rfl)) fun y12 h => ?_
   let a14 : St := a13.p [(72, (vB y12)), (71, (vB y12)), (70, (.ite (true && (y7.star == true)) (vB y11))), (69, (.ite ((true && (y7.star == true)) && (y9 == false)) (vB (!y10)))), (68, (.ite ((true && (y7.star == true)) && (y9 == false)) (vB y10))), (67, (.ite ((true && (y7.star == true)) && (y9 == false)) (vGExpr y7.expr))), (66, (.ite ((true && (y7.star == true)) && (y9 == false)) (.ptr 4 2))), (65, (.ite (true && (y7.star == true)) (vB y9))), (64, (.ite (true && (y7.star == true)) (vB y9))), (63, (.ite ((true && (y7.star == true)) && ((!y8) == false)) (vB (!decide (y7.as_ = []))))), (62, (.ite ((true && (y7.star == true)) && ((!y8) == false)) (vS y7.as_))), (61, (.ite ((true && (y7.star == true)) && ((!y8) == false)) (.ptr 4 12))), (60, (.ite (true && (y7.star == true)) (vB (!y8)))), (59, (.ite (true && (y7.star == true)) (vB (!y8)))), (58, (.ite (true && (y7.star == true)) (vB y8))), (57, (.ite (true && (y7.star == true)) (vS y7.qual))), (56, (.ite (true && (y7.star == true)) (.ptr 4 1)))]
   refine st 1 a14 (gp true y12 (.ptr 4 0) (fun hc => vl) (gp true y12 (vB y7.star) (fun hc => vg hc) (gp true y12 (vB (!y7.star)) (fun hc => vg hc) (gp true y12 (vB (!y7.star)) (fun hc => vg hc) (gp (true && (y12 == false)) (!y7.star) (.ptr 4 1) (fun hc => vl) (gp (true && (y12 == false)) (!y7.star) (vS y7.qual) (fun hc => vg hc) (gp (true && (y12 == false)) (!y7.star) (vB (!decide (y7.qual = []))) (fun hc => vg hc) ?_)))))))
   refine gp (true && (y12 == false)) (!y7.star) (vB (!decide (y7.qual = []))) (fun hc => vg hc) (gp ((true && (y12 == false)) && ((!y7.star) == true)) (!decide (y7.qual = [])) (.ptr 4 12) (fun hc => vl) ?_)
   refine gp ((true && (y12 == false)) && ((!y7.star) == true)) (!decide (y7.qual = [])) (vS y7.as_) (fun hc => vop_val1 (Eq.trans (b := ([(((true && (y12 == false)) && ((!y7.star) == true)) && ((!decide (y7.qual = [])) == false))] : List Bool).all id) (by kernel_rfl) (all_c hc rfl)) (by kernel_rfl)) ?_
   refine gcall_step (p := ((true && (y12 == false)) && ((!y7.star) == true))) (b := (!decide (y7.qual = []))) (m := iIsAs y7.as_) (dflt := default) (args := [(vS y7.as_)]) (v' := (fun y => (vB y))) h (by kernel_rfl) (OK_iIsAs y7.as_) (fun hc => by kernel_rfl) (by kernel_rfl) (fun _ => rfl) (fun hc => (Eq.trans (b := ([(((true && (y12 == false)) && ((!y7.star) == true)) && ((!decide (y7.qual = [])) == false))] : List Bool).all id) (by kernel_rfl) (all_c hc rfl))) ?_
   clear h; intro y13 h
   refine gp ((true && (y12 == false)) && ((!y7.star) == true)) (!decide (y7.qual = [])) (vB (!y13)) (fun hc => vop_val1 (Eq.trans (b := ([(((true && (y12 == false)) && ((!y7.star) == true)) && ((!decide (y7.qual = [])) == false))] : List Bool).all id) (by kernel_rfl) (all_c hc rfl)) (by kernel_rfl)) ?_
   refine gv (true && (y12 == false)) (!y7.star) (fun (y : Bool) => (vB y)) h (fun y hy hc => vop_pickV hy (p := true) (q := (((true && (y12 == false)) && ((!y7.star) == true)) && ((!decide (y7.qual = [])) == false))) (Eq.trans (b := ([((true && (y12 == false)) && ((!y7.star) == true))] : List Bool).all id) (by kernel_rfl) (all_c hc rfl)) (by kernel_rfl) (by kernel_rfl) (by kernel_rfl) (fun _ => rfl) (fun hb => gc_f hc hb)) fun y14 h => ?_
   refine gv true y12 (fun (y : Bool) => (vB y)) h (fun y hy hc => vop_pickV hy (p := ((true && (y12 == false)) && ((!y7.star) == true))) (q := true) (Eq.trans (b := ([(true && (y12 == false))] : List Bool).all id) (by kernel_rfl) (all_c hc rfl)) (by kernel_rfl) (by kernel_rfl) (by kernel_rfl) (fun hb => gc_t hc hb) (fun _ => rfl)) fun y15 h => ?_
   refine vs (fun (y : Bool) => (vB y)) h (fun y hy => vop_pickV hy (p := true) (q := (true && (y12 == false))) (by kernel_rfl) (by kernel_rfl) (by kernel_rfl) (by kernel_rfl) (fun _ => rfl) (fun hb => gc_f rfl hb)) fun y16 h => (nx ?_)
   refine cd h (fun h => ?_) fun h => ?_
   refine so ?_
   let a15 : St := a14.p [(2, (vB false)), (87, (vB y16)), (86, (.ite (gF y12) (vB y15))), (85, (.ite ((gF y12) && ((!y7.star) == true)) (vB y14))), (84, (.ite (((gF y12) && ((!y7.star) == true)) && ((!decide (y7.qual = [])) == false)) (vB (!y13)))), (83, (.ite (((gF y12) && ((!y7.star) == true)) && ((!decide (y7.qual = [])) == false)) (vB y13))), (82, (.ite (((gF y12) && ((!y7.star) == true)) && ((!decide (y7.qual = [])) == false)) (vS y7.as_))), (81, (.ite (((gF y12) && ((!y7.star) == true)) && ((!decide (y7.qual = [])) == false)) (.ptr 4 12))), (80, (.ite ((gF y12) && ((!y7.star) == true)) (vB (!decide (y7.qual = []))))), (79, (.ite ((gF y12) && ((!y7.star) == true)) (vB (!decide (y7.qual = []))))), (78, (.ite ((gF y12) && ((!y7.star) == true)) (vS y7.qual))), (77, (.ite ((gF y12) && ((!y7.star) == true)) (.ptr 4 1))), (76, (.ite (gF y12) (vB (!y7.star)))), (75, (.ite (gF y12) (vB (!y7.star)))), (74, (.ite (gF y12) (vB y7.star))), (73, (.ite (gF y12) (.ptr 4 0)))]
   refine st 1 a15 (nx (ri (br (tr (tr (br (tr ?_)))))))
   injection h with h; subst h
   exact ret1_step (v := (vB false)) (by kernel_rfl) (by kernel_rfl) (by kernel_rfl)
   refine ki (bn (xi (oi ?_)))
   let a16 : St := a14.p [(49, (vI (IntKind.wrap .i64 (x49 + 1)))), (88, (vI (IntKind.wrap .i64 (x49 + 1)))), (87, (vB y16)), (86, (.ite (gF y12) (vB y15))), (85, (.ite ((gF y12) && ((!y7.star) == true)) (vB y14))), (84, (.ite (((gF y12) && ((!y7.star) == true)) && ((!decide (y7.qual = [])) == false)) (vB (!y13)))), (83, (.ite (((gF y12) && ((!y7.star) == true)) && ((!decide (y7.qual = [])) == false)) (vB y13))), (82, (.ite (((gF y12) && ((!y7.star) == true)) && ((!decide (y7.qual = [])) == false)) (vS y7.as_))), (81, (.ite (((gF y12) && ((!y7.star) == true)) && ((!decide (y7.qual = [])) == false)) (.ptr 4 12))), (80, (.ite ((gF y12) && ((!y7.star) == true)) (vB (!decide (y7.qual = []))))), (79, (.ite ((gF y12) && ((!y7.star) == true)) (vB (!decide (y7.qual = []))))), (78, (.ite ((gF y12) && ((!y7.star) == true)) (vS y7.qual))), (77, (.ite ((gF y12) && ((!y7.star) == true)) (.ptr 4 1))), (76, (.ite (gF y12) (vB (!y7.star)))), (75, (.ite (gF y12) (vB (!y7.star)))), (74, (.ite (gF y12) (vB y7.star))), (73, (.ite (gF y12) (.ptr 4 0)))]
   exact st 2 a16 (ni (loop_back (s' := stiIsFormedQuery_L0 p0 (IntKind.wrap .i64 (x49 + 1))) (wr [] (es (es (es (es er_nil)))) (bs_ br_nil)) (OK_iIsFormedQuery_L0 p0 (IntKind.wrap .i64 (x49 + 1)) _ h)))
   refine ei (te (te (bh (xi (si (so ?_))))))
   let a17 : St := a11.p [(90, (.d (.sl 3 (p0.from_.map cGSource)))), (89, (.ptr 1 2))]
   refine st 2 a17 (ps (vI (p0.from_.length : Int)) (vop_len (sz := 3) (l := p0.from_) (f := cGSource) (by kernel_rfl) (by kernel_rfl)) ?_)
   let a18 : St := a17.p [(92, (vI 0)), (91, (vI (p0.from_.length : Int)))]
   exact st 1 a18 (nx (bi (loop_go (s' := stiIsFormedQuery_L1 p0 0) (wr [] (es (es (es (es er_nil)))) (bs_ br_nil)) (OK_iIsFormedQuery_L1 p0 0 _ h))))
 · intro F_iIsFormedQuery_L1 F_iAreFormed OK_iIsFormedQuery_L1 OK_iAreFormed p0 x92 r h
   delta aciIsFormedQuery_L1
   refine loop_unroll (so ?_)
   let a19 : St := (stiIsFormedQuery_L1 p0 x92).p [(93, (vB (decide (x92 < (p0.from_.length : Int)))))]
   refine st 1 a19 (nx (si ?_))
   refine cd h (fun h => ?_) fun h => ?_
   refine ki (xi (si (bi (so ?_))))
   let a20 : St := a19.p [(94, (vI x92))]
   refine st 1 a20 (vs (fun (y : GSource) => (.rp (oGSource y))) h (fun y hy => vop_ia (l := p0.from_) (f := cGSource) (g := oGSource) (k := .i64) hy cGSource_eq (by kernel_rfl) (by kernel_rfl) (by kernel_rfl)) fun y17 h => ?_)
   let a21 : St := ⟨(5, (vI x92)) :: (6, (.ptr 6 0)) :: (96, (vGSource y17)) :: (95, (.rp (oGSource y17))) :: a20.env, [(6, bGSource y17), (1, bGQuery p0)]⟩
   refine st 4 a21 (nx (so ?_))
   let a22 : St := a21.p [(98, (vS y17.table)), (97, (.ptr 6 0))]
   refine st 2 a22 (cs h (OK_iNameOk y17.table) fun y18 h => ?_)
   let a23 : St := a22.p [(101, (vB (!y18))), (100, (vB (!y18))), (99, (vB y18))]
   refine st 2 a23 (gp true (!y18) (.ptr 6 1) (fun hc => vl) (gp true (!y18) (vS y17.as_) (fun hc => vg hc) ?_))
   refine gcall_step (p := true) (b := (!y18)) (m := iIsAs y17.as_) (dflt := default) (args := [(vS y17.as_)]) (v' := (fun y => (vB y))) h (by kernel_rfl) (OK_iIsAs y17.as_) (fun hc => by kernel_rfl) (by kernel_rfl) (fun _ => rfl) (fun hc => (Eq.trans (b := ([(true && ((!y18) == false))] : List Bool).all id) (by kernel_rfl) (all_c hc rfl))) ?_
   clear h; intro y19 h
   refine gp true (!y18) (vB (!y19)) (fun hc => vg hc) (vs (fun (y : Bool) => (vB y)) h (fun y hy => vop_pickV hy (p := true) (q := (true && ((!y18) == false))) (by kernel_rfl) (by kernel_rfl) (by kernel_rfl) (by kernel_rfl) (fun _ => rfl) (fun hb => gc_f rfl hb)) fun y20 h => ?_)
   let a24 : St := a23.p [(107, (vB y20)), (106, (vB y20)), (105, (.ite (true && ((!y18) == false)) (vB (!y19)))), (104, (.ite (true && ((!y18) == false)) (vB y19))), (103, (.ite (true && ((!y18) == false)) (vS y17.as_))), (102, (.ite (true && ((!y18) == false)) (.ptr 6 1)))]
   refine st 1 a24 (gp true y20 (.ptr 6 2) (fun hc => vl) (gp true y20 (.d (.sl 10 (y17.on_.map cGExpr))) (fun hc => vg hc) (gp true y20 (vI (y17.on_.length : Int)) (fun hc => vop_len (sz := 10) (l := y17.on_) (f := cGExpr) (Eq.trans (b := ([(true && (y20 == false))] : List Bool).all id) (by kernel_rfl) (all_c hc rfl)) (by kernel_rfl)) (gp true y20 (vB (decide (1 < (y17.on_.length : Int)))) (fun hc => vg hc) ?_))))
   refine vs (fun (y : Bool) => (vB y)) h (fun y hy => vop_pickV hy (p := true) (q := (true && (y20 == false))) (by kernel_rfl) (by kernel_rfl) (by kernel_rfl) (by kernel_rfl) (fun _ => rfl) (fun hb => gc_f rfl hb)) fun y21 h => ?_
   let a25 : St := a24.p [(113, (vB y21)), (112, (vB y21)), (111, (.ite (gF y20) (vB (decide (1 < (y17.on_.length : Int)))))), (110, (.ite (gF y20) (vI (y17.on_.length : Int)))), (109, (.ite (gF y20) (.d (.sl 10 (y17.on_.map cGExpr))))), (108, (.ite (gF y20) (.ptr 6 2)))]
   refine st 1 a25 (gp true y21 (vI x92) (fun hc => vl) (gp true y21 (vB (decide (x92 = 0))) (fun hc => vg hc) (gp true y21 (vB (decide (x92 = 0))) (fun hc => vg hc) (gp (true && (y21 == false)) (decide (x92 = 0)) (.ptr 6 2) (fun hc => vl) (gp (true && (y21 == false)) (decide (x92 = 0)) (.d (.sl 10 (y17.on_.map cGExpr))) (fun hc => vg hc) ?_)))))
   refine gp (true && (y21 == false)) (decide (x92 = 0)) (vI (y17.on_.length : Int)) (fun hc => vop_len (sz := 10) (l := y17.on_) (f := cGExpr) (Eq.trans (b := ([((true && (y21 == false)) && ((decide (x92 = 0)) == true))] : List Bool).all id) (by kernel_rfl) (all_c hc rfl)) (by kernel_rfl)) (gp (true && (y21 == false)) (decide (x92 = 0)) (vB (decide (0 < (y17.on_.length : Int)))) (fun hc => vg hc) ?_)
   refine gv true y21 (fun (y : Bool) => (vB y)) h (fun y hy hc => vop_pickV hy (p := ((true && (y21 == false)) && ((decide (x92 = 0)) == true))) (q := true) (Eq.trans (b := ([(true && (y21 == false))] : List Bool).all id) (by kernel_rfl) (all_c hc rfl)) (by kernel_rfl) (by kernel_rfl) (by kernel_rfl) (fun hb => gc_t hc hb) (fun _ => rfl)) fun y22 h => ?_
   refine vs (fun (y : Bool) => (vB y)) h (fun y hy => vop_pickV hy (p := true) (q := (true && (y21 == false))) (by kernel_rfl) (by kernel_rfl) (by kernel_rfl) (by kernel_rfl) (fun _ => rfl) (fun hb => gc_f rfl hb)) fun y23 h => (nx ?_)
   refine cd h (fun h => ?_) fun h => ?_
   refine so ?_
   let a26 : St := a25.p [(2, (vB false)), (122, (vB y23)), (121, (.ite (gF y21) (vB y22))), (120, (.ite ((gF y21) && ((decide (x92 = 0)) == true)) (vB (decide (0 < (y17.on_.length : Int)))))), (119, (.ite ((gF y21) && ((decide (x92 = 0)) == true)) (vI (y17.on_.length : Int)))), (118, (.ite ((gF y21) && ((decide (x92 = 0)) == true)) (.d (.sl 10 (y17.on_.map cGExpr))))), (117, (.ite ((gF y21) && ((decide (x92 = 0)) == true)) (.ptr 6 2))), (116, (.ite (gF y21) (vB (decide (x92 = 0))))), (115, (.ite (gF y21) (vB (decide (x92 = 0))))), (114, (.ite (gF y21) (vI x92)))]
   refine st 1 a26 (nx (ri (br (tr (tr (br (tr ?_)))))))
   injection h with h; subst h
   exact ret1_step (v := (vB false)) (by kernel_rfl) (by kernel_rfl) (by kernel_rfl)
   refine ki (bn (xi (oi ?_)))
   let a27 : St := a25.p [(92, (vI (IntKind.wrap .i64 (x92 + 1)))), (123, (vI (IntKind.wrap .i64 (x92 + 1)))), (122, (vB y23)), (121, (.ite (gF y21) (vB y22))), (120, (.ite ((gF y21) && ((decide (x92 = 0)) == true)) (vB (decide (0 < (y17.on_.length : Int)))))), (119, (.ite ((gF y21) && ((decide (x92 = 0)) == true)) (vI (y17.on_.length : Int)))), (118, (.ite ((gF y21) && ((decide (x92 = 0)) == true)) (.d (.sl 10 (y17.on_.map cGExpr))))), (117, (.ite ((gF y21) && ((decide (x92 = 0)) == true)) (.ptr 6 2))), (116, (.ite (gF y21) (vB (decide (x92 = 0))))), (115, (.ite (gF y21) (vB (decide (x92 = 0))))), (114, (.ite (gF y21) (vI x92)))]
   exact st 2 a27 (ni (loop_back (s' := stiIsFormedQuery_L1 p0 (IntKind.wrap .i64 (x92 + 1))) (wr [] (es (es (es (es er_nil)))) (bs_ br_nil)) (OK_iIsFormedQuery_L1 p0 (IntKind.wrap .i64 (x92 + 1)) _ h)))
   refine ei (te (te (bh (xi (so ?_)))))
   let a28 : St := a19.p [(124, (vGQuery p0))]
   refine st 1 a28 (callg_step ⟨[], [], [], [], [], [(2000000, 125)], [], [125]⟩ (m := iQuery_exprs p0) (S' := fun (y : (List GExpr)) => ⟨(125, (.osl 125 49 10 (y.map cGExpr))) :: a28.env, a28.bx⟩) h (OK_iQuery_exprs p0) (by kernel_rfl) (by kernel_rfl) (by kernel_rfl) (by kernel_rfl) (fun y => by kernel_rfl) (fun y => by kernel_rfl) ?_)
   clear h; intro y24 h
   refine cs h (OK_iAreFormed y24) fun y25 h => ?_
   let a29 : St := a28.p [(2, (vB y25)), (126, (vB y25)), (125, (.osl 125 49 10 (y24.map cGExpr)))]
   refine st 1 a29 (nx (ri ?_))
   injection h with h; subst h
   exact ret1_step (v := (vB y25)) (by kernel_rfl) (by kernel_rfl) (by kernel_rfl)
 · intro F_gSlices_ContainsFunc_Simpl_Expr_impl_Expr_iAreFormed_1 OK_gSlices_ContainsFunc_Simpl_Expr_impl_Expr_iAreFormed_1 p0 r h
   refine acalls_of_fn triAreFormed (Nat.le_of_ble_eq_true rfl) (by simp) ?_
   show avc Try.prog aciAreFormed (qiAreFormed _) ⟨[(0, (.d (.sl 10 (p0.map cGExpr))))], []⟩
   delta aciAreFormed
   refine so ?_
   let a0 : St := ⟨[(2, (vB false)), (0, (.d (.sl 10 (p0.map cGExpr))))], []⟩
   refine st 1 a0 (nx (so ?_))
   let a1 : St := a0.p [(3, (.d (.sl 10 (p0.map cGExpr))))]
   refine st 1 a1 (cs h (OK_gSlices_ContainsFunc_Simpl_Expr_impl_Expr_iAreFormed_1 p0) fun y1 h => ?_)
   let a2 : St := a1.p [(2, (vB (!y1))), (5, (vB (!y1))), (4, (vB y1))]
   refine st 2 a2 (nx (ri ?_))
   injection h with h; subst h
   exact ret1_step (v := (vB (!y1))) (by kernel_rfl) (by kernel_rfl) (by kernel_rfl)
 · intro F_gSlices_IndexFunc_Simpl_Expr_impl_Expr_iAreFormed_1 OK_gSlices_IndexFunc_Simpl_Expr_impl_Expr_iAreFormed_1 p0 r h
   refine acalls_of_fn trgSlices_ContainsFunc_Simpl_Expr_impl_Expr_iAreFormed_1 (Nat.le_of_ble_eq_true rfl) (by simp) ?_
   show avc Try.prog acgSlices_ContainsFunc_Simpl_Expr_impl_Expr_iAreFormed_1 (qgSlices_ContainsFunc_Simpl_Expr_impl_Expr_iAreFormed_1 _) ⟨[(0, (.d (.sl 10 (p0.map cGExpr)))), (1, (.fn 186 []))], []⟩
   delta acgSlices_ContainsFunc_Simpl_Expr_impl_Expr_iAreFormed_1
   refine so ?_
   let a0 : St := ⟨[(4, (vB false)), (0, (.d (.sl 10 (p0.map cGExpr)))), (1, (.fn 186 []))], []⟩
   refine st 1 a0 (nx (so ?_))
   let a1 : St := a0.p [(6, (.fn 186 [])), (5, (.d (.sl 10 (p0.map cGExpr))))]
   refine st 2 a1 (cs h (OK_gSlices_IndexFunc_Simpl_Expr_impl_Expr_iAreFormed_1 p0) fun y1 h => ?_)
   let a2 : St := a1.p [(4, (vB (decide (0 ≤ y1)))), (8, (vB (decide (0 ≤ y1)))), (7, (vI y1))]
   refine st 2 a2 (nx (ri ?_))
   injection h with h; subst h
   exact ret1_step (v := (vB (decide (0 ≤ y1)))) (by kernel_rfl) (by kernel_rfl) (by kernel_rfl)
 · intro F_gSlices_IndexFunc_Simpl_Expr_impl_Expr_iAreFormed_1_L0 OK_gSlices_IndexFunc_Simpl_Expr_impl_Expr_iAreFormed_1_L0 p0 r h
   refine acalls_of_fn trgSlices_IndexFunc_Simpl_Expr_impl_Expr_iAreFormed_1 (Nat.le_of_ble_eq_true rfl) (by simp) ?_
   show avc Try.prog acgSlices_IndexFunc_Simpl_Expr_impl_Expr_iAreFormed_1 (qgSlices_IndexFunc_Simpl_Expr_impl_Expr_iAreFormed_1 _) ⟨[(0, (.d (.sl 10 (p0.map cGExpr)))), (1, (.fn 186 []))], []⟩
   delta acgSlices_IndexFunc_Simpl_Expr_impl_Expr_iAreFormed_1
   refine so ?_
   let a0 : St := ⟨[(4, (vI 0)), (0, (.d (.sl 10 (p0.map cGExpr)))), (1, (.fn 186 []))], []⟩
   refine st 1 a0 (nx (si (so ?_)))
   let a1 : St := a0.p [(6, (.d (.sl 10 (p0.map cGExpr))))]
   refine st 1 a1 (ps (vI (p0.length : Int)) (vop_len (sz := 10) (l := p0) (f := cGExpr) (by kernel_rfl) (by kernel_rfl)) ?_)
   let a2 : St := a1.p [(8, (vI 0)), (7, (vI (p0.length : Int)))]
   exact st 1 a2 (nx (bi (loop_go (s' := stgSlices_IndexFunc_Simpl_Expr_impl_Expr_iAreFormed_1_L0 p0 0) (wr [] (es (es (es (es er_nil)))) br_nil) (OK_gSlices_IndexFunc_Simpl_Expr_impl_Expr_iAreFormed_1_L0 p0 0 _ h))))
 · intro F_gSlices_IndexFunc_Simpl_Expr_impl_Expr_iAreFormed_1_L0 F_iAreFormed_1 OK_gSlices_IndexFunc_Simpl_Expr_impl_Expr_iAreFormed_1_L0 OK_iAreFormed_1 p0 x8 r h
   delta acgSlices_IndexFunc_Simpl_Expr_impl_Expr_iAreFormed_1_L0
   refine loop_unroll (so ?_)
   let a3 : St := (stgSlices_IndexFunc_Simpl_Expr_impl_Expr_iAreFormed_1_L0 p0 x8).p [(9, (vB (decide (x8 < (p0.length : Int)))))]
   refine st 1 a3 (nx (si ?_))
   refine cd h (fun h => ?_) fun h => ?_
   refine ki (xi (si (bi (so ?_))))
   let a4 : St := a3.p [(5, (vI x8)), (10, (vI x8))]
   refine st 2 a4 (nx (so ?_))
   let a5 : St := a4.p [(13, (vI x8)), (12, (.d (.sl 10 (p0.map cGExpr)))), (11, (.fn 186 []))]
   refine st 3 a5 (vs (fun (y : GExpr) => (.rp (oGExpr y))) h (fun y hy => vop_ia (l := p0) (f := cGExpr) (g := oGExpr) (k := .i64) hy cGExpr_eq (by kernel_rfl) (by kernel_rfl) (by kernel_rfl)) fun y1 h => ?_)
   let a6 : St := a5.p [(15, (vGExpr y1)), (14, (.rp (oGExpr y1)))]
   refine st 1 a6 (callv_step (m := F_iAreFormed_1 y1) (caps := []) (args := [(vGExpr y1)]) (v' := (fun y => (vB y))) h (by kernel_rfl) (by kernel_rfl) (OK_iAreFormed_1 y1) (by kernel_rfl) (by kernel_rfl) (fun _ => rfl) ?_)
   clear h; intro y2 h
   refine nx ?_
   refine cd h (fun h => ?_) fun h => ?_
   refine so ?_
   let a7 : St := a6.p [(4, (vI x8)), (17, (vI x8)), (16, (vB y2))]
   refine st 2 a7 (nx (ri (br (tr (tr (br (tr ?_)))))))
   injection h with h; subst h
   exact ret1_step (v := (vI x8)) (by kernel_rfl) (by kernel_rfl) (by kernel_rfl)
   refine ki (bn (xi (oi ?_)))
   let a8 : St := a6.p [(8, (vI (IntKind.wrap .i64 (x8 + 1)))), (18, (vI (IntKind.wrap .i64 (x8 + 1)))), (16, (vB y2))]
   exact st 2 a8 (ni (loop_back (s' := stgSlices_IndexFunc_Simpl_Expr_impl_Expr_iAreFormed_1_L0 p0 (IntKind.wrap .i64 (x8 + 1))) (wr [] (es (es (es (es er_nil)))) br_nil) (OK_gSlices_IndexFunc_Simpl_Expr_impl_Expr_iAreFormed_1_L0 p0 (IntKind.wrap .i64 (x8 + 1)) _ h)))
   refine ei (te (te (bh (xi (so ?_)))))
   let a9 : St := a3.p [(4, (vI (-1)))]
   refine st 1 a9 (nx (ri ?_))
   injection h with h; subst h
   exact ret1_step (v := (vI (-1))) (by kernel_rfl) (by kernel_rfl) (by kernel_rfl)
 · intro F_iIsFormed OK_iIsFormed p0 r h
   refine acalls_of_fn triAreFormed_1 (Nat.le_of_ble_eq_true rfl) (by simp) ?_
   show avc Try.prog aciAreFormed_1 (qiAreFormed_1 _) ⟨[(0, (vGExpr p0))], []⟩
   delta aciAreFormed_1
   refine so ?_
   let a0 : St := ⟨[(2, (vB false)), (1, (.ptr 1 0)), (0, (vGExpr p0))], [(1, bGExpr p0)]⟩
   refine st 2 a0 (nx (so ?_))
   let a1 : St := a0.p [(3, (vGExpr p0))]
   refine st 1 a1 (cs h (OK_iIsFormed p0) fun y1 h => ?_)
   let a2 : St := a1.p [(2, (vB (!y1))), (5, (vB (!y1))), (4, (vB y1))]
   refine st 2 a2 (nx (ri ?_))
   injection h with h; subst h
   exact ret1_step (v := (vB (!y1))) (by kernel_rfl) (by kernel_rfl) (by kernel_rfl)
 · intro F_iAreFormed F_gSlices_ContainsFunc_Simpl_Query_impl_Query_iIsFormed_1 OK_iAreFormed OK_gSlices_ContainsFunc_Simpl_Query_impl_Query_iIsFormed_1 p0 r h
   refine acalls_of_fn triIsFormed (Nat.le_of_ble_eq_true rfl) (by simp) ?_
   show avc Try.prog aciIsFormed (qiIsFormed _) ⟨[(0, (vGExpr p0))], []⟩
   delta aciIsFormed
   refine so ?_
   let a0 : St := ⟨[(2, (vB false)), (1, (.ptr 1 0)), (0, (vGExpr p0))], [(1, bGExpr p0)]⟩
   refine st 2 a0 (nx (so ?_))
   let a1 : St := a0.p [(6, (vGExpr p0))]
   refine st 1 a1 (cs h (OK_iFormOf p0) fun y1 h => ?_)
   let a2 : St := ⟨(4, (vB y1.2)) :: (3, (.ptr 3 0)) :: (9, (vB y1.2)) :: (8, (vGForm y1.1)) :: (5, (.tup [(vGForm y1.1), (vB y1.2)])) :: (7, (.tup [(vGForm y1.1), (vB y1.2)])) :: a1.env, [(3, bGForm y1.1), (1, bGExpr p0)]⟩
   refine st 6 a2 (nx (si (so ?_)))
   let a3 : St := a2.p [(12, (vB (!y1.2))), (11, (vB (!y1.2))), (10, (vB y1.2))]
   refine st 3 a3 (gp true (!y1.2) (.ptr 3 0) (fun hc => vl) (gp true (!y1.2) (vB y1.1.op) (fun hc => vg hc) (gp true (!y1.2) (vB (!y1.1.op)) (fun hc => vg hc) (gp true (!y1.2) (vB (!y1.1.op)) (fun hc => vg hc) (gp (true && ((!y1.2) == false)) (!y1.1.op) (.ptr 1 1) (fun hc => vl) (gp (true && ((!y1.2) == false)) (!y1.1.op) (vI p0.op) (fun hc => vg hc) ?_))))))
   refine gp (true && ((!y1.2) == false)) (!y1.1.op) (vB (!decide (p0.op = 0))) (fun hc => vg hc) ?_
   refine gv true (!y1.2) (fun (y : Bool) => (vB y)) h (fun y hy hc => vop_pickV hy (p := ((true && ((!y1.2) == false)) && ((!y1.1.op) == true))) (q := true) (Eq.trans (b := ([(true && ((!y1.2) == false))] : List Bool).all id) (by kernel_rfl) (all_c hc rfl)) (by kernel_rfl) (by kernel_rfl) (by kernel_rfl) (fun hb => gc_t hc hb) (fun _ => rfl)) fun y2 h => ?_
   refine vs (fun (y : Bool) => (vB y)) h (fun y hy => vop_pickV hy (p := true) (q := (true && ((!y1.2) == false))) (by kernel_rfl) (by kernel_rfl) (by kernel_rfl) (by kernel_rfl) (fun _ => rfl) (fun hb => gc_f rfl hb)) fun y3 h => ?_
   let a4 : St := a3.p [(22, (vB y3)), (21, (vB y3)), (20, (.ite (true && ((!y1.2) == false)) (vB y2))), (19, (.ite ((true && ((!y1.2) == false)) && ((!y1.1.op) == true)) (vB (!decide (p0.op = 0))))), (18, (.ite ((true && ((!y1.2) == false)) && ((!y1.1.op) == true)) (vI p0.op))), (17, (.ite ((true && ((!y1.2) == false)) && ((!y1.1.op) == true)) (.ptr 1 1))), (16, (.ite (true && ((!y1.2) == false)) (vB (!y1.1.op)))), (15, (.ite (true && ((!y1.2) == false)) (vB (!y1.1.op)))), (14, (.ite (true && ((!y1.2) == false)) (vB y1.1.op))), (13, (.ite (true && ((!y1.2) == false)) (.ptr 3 0)))]
   refine st 1 a4 (gp true y3 (.ptr 3 1) (fun hc => vl) (gp true y3 (vB y1.1.not_) (fun hc => vg hc) (gp true y3 (vB (!y1.1.not_)) (fun hc => vg hc) (gp true y3 (vB (!y1.1.not_)) (fun hc => vg hc) (gp (true && (y3 == false)) (!y1.1.not_) (.ptr 1 2) (fun hc => vl) (gp (true && (y3 == false)) (!y1.1.not_) (vB p0.not_) (fun hc => vg hc) ?_))))))
   refine gv true y3 (fun (y : Bool) => (vB y)) h (fun y hy hc => vop_pickV hy (p := ((true && (y3 == false)) && ((!y1.1.not_) == true))) (q := true) (Eq.trans (b := ([(true && (y3 == false))] : List Bool).all id) (by kernel_rfl) (all_c hc rfl)) (by kernel_rfl) (by kernel_rfl) (by kernel_rfl) (fun hb => gc_t hc hb) (fun _ => rfl)) fun y4 h => ?_
   refine vs (fun (y : Bool) => (vB y)) h (fun y hy => vop_pickV hy (p := true) (q := (true && (y3 == false))) (by kernel_rfl) (by kernel_rfl) (by kernel_rfl) (by kernel_rfl) (fun _ => rfl) (fun hb => gc_f rfl hb)) fun y5 h => ?_
   let a5 : St := a4.p [(31, (vB y5)), (30, (vB y5)), (29, (.ite (gF y3) (vB y4))), (28, (.ite ((gF y3) && ((!y1.1.not_) == true)) (vB p0.not_))), (27, (.ite ((gF y3) && ((!y1.1.not_) == true)) (.ptr 1 2))), (26, (.ite (gF y3) (vB (!y1.1.not_)))), (25, (.ite (gF y3) (vB (!y1.1.not_)))), (24, (.ite (gF y3) (vB y1.1.not_))), (23, (.ite (gF y3) (.ptr 3 1)))]
   refine st 1 a5 (gp true y5 (.ptr 3 2) (fun hc => vl) (gp true y5 (vB y1.1.value) (fun hc => vg hc) (gp true y5 (vB (!y1.1.value)) (fun hc => vg hc) (gp true y5 (vB (!y1.1.value)) (fun hc => vg hc) (gp (true && (y5 == false)) (!y1.1.value) (.ptr 1 3) (fun hc => vl) (gp (true && (y5 == false)) (!y1.1.value) (vGValue p0.value) (fun hc => vg hc) ?_))))))
   refine gp (true && (y5 == false)) (!y1.1.value) (vGValue (GValue.mk 0 0 [])) (fun hc => vl) ?_
   refine gp (true && (y5 == false)) (!y1.1.value) (vB (!((decide (p0.value.kind = 0)) && ((decide (p0.value.num = 0)) && ((decide (p0.value.text = [])) && true))))) (fun hc => vop_val1 (Eq.trans (b := ([((true && (y5 == false)) && ((!y1.1.value) == true)), ((true && (y5 == false)) && ((!y1.1.value) == true))] : List Bool).all id) (by kernel_rfl) (all_c hc (all_c hc rfl))) (by kernel_rfl)) ?_
   refine gv true y5 (fun (y : Bool) => (vB y)) h (fun y hy hc => vop_pickV hy (p := ((true && (y5 == false)) && ((!y1.1.value) == true))) (q := true) (Eq.trans (b := ([(true && (y5 == false))] : List Bool).all id) (by kernel_rfl) (all_c hc rfl)) (by kernel_rfl) (by kernel_rfl) (by kernel_rfl) (fun hb => gc_t hc hb) (fun _ => rfl)) fun y6 h => ?_
   refine vs (fun (y : Bool) => (vB y)) h (fun y hy => vop_pickV hy (p := true) (q := (true && (y5 == false))) (by kernel_rfl) (by kernel_rfl) (by kernel_rfl) (by kernel_rfl) (fun _ => rfl) (fun hb => gc_f rfl hb)) fun y7 h => ?_
   let a6 : St := a5.p [(42, (vB y7)), (41, (vB y7)), (40, (.ite (gF y5) (vB y6))), (39, (.ite ((gF y5) && ((!y1.1.value) == true)) (vB (!((decide (p0.value.kind = 0)) && ((decide (p0.value.num = 0)) && ((decide (p0.value.text = [])) && true))))))), (38, (.ite ((gF y5) && ((!y1.1.value) == true)) (vGValue (GValue.mk 0 0 [])))), (37, (.ite ((gF y5) && ((!y1.1.value) == true)) (vGValue p0.value))), (36, (.ite ((gF y5) && ((!y1.1.value) == true)) (.ptr 1 3))), (35, (.ite (gF y5) (vB (!y1.1.value)))), (34, (.ite (gF y5) (vB (!y1.1.value)))), (33, (.ite (gF y5) (vB y1.1.value))), (32, (.ite (gF y5) (.ptr 3 2)))]
   refine st 1 a6 (gp true y7 (.ptr 3 3) (fun hc => vl) (gp true y7 (vB y1.1.name) (fun hc => vg hc) (gp true y7 (vB (!y1.1.name)) (fun hc => vg hc) (gp true y7 (vB (!y1.1.name)) (fun hc => vg hc) (gp (true && (y7 == false)) (!y1.1.name) (.ptr 1 6) (fun hc => vl) (gp (true && (y7 == false)) (!y1.1.name) (vS p0.qual) (fun hc => vg hc) ?_))))))
   refine gp (true && (y7 == false)) (!y1.1.name) (vB (!decide (p0.qual = []))) (fun hc => vg hc) (gp (true && (y7 == false)) (!y1.1.name) (vB (!decide (p0.qual = []))) (fun hc => vg hc) (gp ((true && (y7 == false)) && ((!y1.1.name) == true)) (!decide (p0.qual = [])) (.ptr 1 7) (fun hc => vl) ?_))
   refine gp ((true && (y7 == false)) && ((!y1.1.name) == true)) (!decide (p0.qual = [])) (vS p0.name) (fun hc => vop_val1 (Eq.trans (b := ([(((true && (y7 == false)) && ((!y1.1.name) == true)) && ((!decide (p0.qual = [])) == false))] : List Bool).all id) (by kernel_rfl) (all_c hc rfl)) (by kernel_rfl)) ?_
   refine gp ((true && (y7 == false)) && ((!y1.1.name) == true)) (!decide (p0.qual = [])) (vB (!decide (p0.name = []))) (fun hc => vop_val1 (Eq.trans (b := ([(((true && (y7 == false)) && ((!y1.1.name) == true)) && ((!decide (p0.qual = [])) == false))] : List Bool).all id) (by kernel_rfl) (all_c hc rfl)) (by kernel_rfl)) ?_
   refine gv (true && (y7 == false)) (!y1.1.name) (fun (y : Bool) => (vB y)) h (fun y hy hc => vop_pickV hy (p := true) (q := (((true && (y7 == false)) && ((!y1.1.name) == true)) && ((!decide (p0.qual = [])) == false))) (Eq.trans (b := ([((true && (y7 == false)) && ((!y1.1.name) == true))] : List Bool).all id) (by kernel_rfl) (all_c hc rfl)) (by kernel_rfl) (by kernel_rfl) (by kernel_rfl) (fun _ => rfl) (fun hb => gc_f hc hb)) fun y8 h => ?_
   refine gv true y7 (fun (y : Bool) => (vB y)) h (fun y hy hc => vop_pickV hy (p := ((true && (y7 == false)) && ((!y1.1.name) == true))) (q := true) (Eq.trans (b := ([(true && (y7 == false))] : List Bool).all id) (by kernel_rfl) (all_c hc rfl)) (by kernel_rfl) (by kernel_rfl) (by kernel_rfl) (fun hb => gc_t hc hb) (fun _ => rfl)) fun y9 h => ?_
   refine vs (fun (y : Bool) => (vB y)) h (fun y hy => vop_pickV hy (p := true) (q := (true && (y7 == false))) (by kernel_rfl) (by kernel_rfl) (by kernel_rfl) (by kernel_rfl) (fun _ => rfl) (fun hb => gc_f rfl hb)) fun y10 h => (nx ?_)
   refine cd h (fun h => ?_) fun h => ?_
   refine so ?_
   let a7 : St := a6.p [(2, (vB false)), (56, (vB y10)), (55, (.ite (gF y7) (vB y9))), (54, (.ite ((gF y7) && ((!y1.1.name) == true)) (vB y8))), (53, (.ite (((gF y7) && ((!y1.1.name) == true)) && ((!decide (p0.qual = [])) == false)) (vB (!decide (p0.name = []))))), (52, (.ite (((gF y7) && ((!y1.1.name) == true)) && ((!decide (p0.qual = [])) == false)) (vS p0.name))), (51, (.ite (((gF y7) && ((!y1.1.name) == true)) && ((!decide (p0.qual = [])) == false)) (.ptr 1 7))), (50, (.ite ((gF y7) && ((!y1.1.name) == true)) (vB (!decide (p0.qual = []))))), (49, (.ite ((gF y7) && ((!y1.1.name) == true)) (vB (!decide (p0.qual = []))))), (48, (.ite ((gF y7) && ((!y1.1.name) == true)) (vS p0.qual))), (47, (.ite ((gF y7) && ((!y1.1.name) == true)) (.ptr 1 6))), (46, (.ite (gF y7) (vB (!y1.1.name)))), (45, (.ite (gF y7) (vB (!y1.1.name)))), (44, (.ite (gF y7) (vB y1.1.name))), (43, (.ite (gF y7) (.ptr 3 3)))]
   refine st 1 a7 (nx (ri (tr ?_)))
   injection h with h; subst h
   exact ret1_step (v := (vB false)) (by kernel_rfl) (by kernel_rfl) (by kernel_rfl)
   refine ki (xi (si (so ?_)))
   let a8 : St := a6.p [(58, (.d (.sl 10 (p0.kids.map cGExpr)))), (57, (.ptr 1 8)), (56, (vB y10)), (55, (.ite (gF y7) (vB y9))), (54, (.ite ((gF y7) && ((!y1.1.name) == true)) (vB y8))), (53, (.ite (((gF y7) && ((!y1.1.name) == true)) && ((!decide (p0.qual = [])) == false)) (vB (!decide (p0.name = []))))), (52, (.ite (((gF y7) && ((!y1.1.name) == true)) && ((!decide (p0.qual = [])) == false)) (vS p0.name))), (51, (.ite (((gF y7) && ((!y1.1.name) == true)) && ((!decide (p0.qual = [])) == false)) (.ptr 1 7))), (50, (.ite ((gF y7) && ((!y1.1.name) == true)) (vB (!decide (p0.qual = []))))), (49, (.ite ((gF y7) && ((!y1.1.name) == true)) (vB (!decide (p0.qual = []))))), (48, (.ite ((gF y7) && ((!y1.1.name) == true)) (vS p0.qual))), (47, (.ite ((gF y7) && ((!y1.1.name) == true)) (.ptr 1 6))), (46, (.ite (gF y7) (vB (!y1.1.name)))), (45, (.ite (gF y7) (vB (!y1.1.name)))), (44, (.ite (gF y7) (vB y1.1.name))), (43, (.ite (gF y7) (.ptr 3 3)))]
   refine st 2 a8 (ps (vI (p0.kids.length : Int)) (vop_len (sz := 10) (l := p0.kids) (f := cGExpr) (by kernel_rfl) (by kernel_rfl)) ?_)
   let a9 : St := a8.p [(63, (vB (decide ((p0.kids.length : Int) < y1.1.least)))), (62, (vB (decide ((p0.kids.length : Int) < y1.1.least)))), (61, (vI y1.1.least)), (60, (.ptr 3 4)), (59, (vI (p0.kids.length : Int)))]
   refine st 4 a9 (gp true (decide ((p0.kids.length : Int) < y1.1.least)) (.ptr 1 8) (fun hc => vl) (gp true (decide ((p0.kids.length : Int) < y1.1.least)) (.d (.sl 10 (p0.kids.map cGExpr))) (fun hc => vg hc) ?_))
   refine gp true (decide ((p0.kids.length : Int) < y1.1.least)) (vI (p0.kids.length : Int)) (fun hc => vop_len (sz := 10) (l := p0.kids) (f := cGExpr) (Eq.trans (b := ([(true && ((decide ((p0.kids.length : Int) < y1.1.least)) == false))] : List Bool).all id) (by kernel_rfl) (all_c hc rfl)) (by kernel_rfl)) (gp true (decide ((p0.kids.length : Int) < y1.1.least)) (.ptr 3 5) (fun hc => vl) ?_)
   refine gp true (decide ((p0.kids.length : Int) < y1.1.least)) (vI y1.1.most) (fun hc => vg hc) ?_
   refine gp true (decide ((p0.kids.length : Int) < y1.1.least)) (vB (decide (y1.1.most < (p0.kids.length : Int)))) (fun hc => vop_val1 (Eq.trans (b := ([(true && ((decide ((p0.kids.length : Int) < y1.1.least)) == false)), (true && ((decide ((p0.kids.length : Int) < y1.1.least)) == false))] : List Bool).all id) (by kernel_rfl) (all_c hc (all_c hc rfl))) (by kernel_rfl)) ?_
   refine vs (fun (y : Bool) => (vB y)) h (fun y hy => vop_pickV hy (p := true) (q := (true && ((decide ((p0.kids.length : Int) < y1.1.least)) == false))) (by kernel_rfl) (by kernel_rfl) (by kernel_rfl) (by kernel_rfl) (fun _ => rfl) (fun hb => gc_f rfl hb)) fun y11 h => ?_
   let a10 : St := a9.p [(71, (vB y11)), (70, (vB y11)), (69, (.ite (true && ((decide ((p0.kids.length : Int) < y1.1.least)) == false)) (vB (decide (y1.1.most < (p0.kids.length : Int)))))), (68, (.ite (true && ((decide ((p0.kids.length : Int) < y1.1.least)) == false)) (vI y1.1.most))), (67, (.ite (true && ((decide ((p0.kids.length : Int) < y1.1.least)) == false)) (.ptr 3 5))), (66, (.ite (true && ((decide ((p0.kids.length : Int) < y1.1.least)) == false)) (vI (p0.kids.length : Int)))), (65, (.ite (true && ((decide ((p0.kids.length : Int) < y1.1.least)) == false)) (.d (.sl 10 (p0.kids.map cGExpr))))), (64, (.ite (true && ((decide ((p0.kids.length : Int) < y1.1.least)) == false)) (.ptr 1 8)))]
   refine st 1 a10 (gp true y11 (.ptr 1 9) (fun hc => vl) (gp true y11 (.d (.sl 6 (p0.sub.map cGQuery))) (fun hc => vg hc) (gp true y11 (vI (p0.sub.length : Int)) (fun hc => vop_len (sz := 6) (l := p0.sub) (f := cGQuery) (Eq.trans (b := ([(true && (y11 == false))] : List Bool).all id) (by kernel_rfl) (all_c hc rfl)) (by kernel_rfl)) (gp true y11 (.ptr 3 6) (fun hc => vl) (gp true y11 (vI y1.1.subs) (fun hc => vg hc) ?_)))))
   refine gp true y11 (vB (!decide ((p0.sub.length : Int) = y1.1.subs))) (fun hc => vop_val1 (Eq.trans (b := ([(true && (y11 == false)), (true && (y11 == false))] : List Bool).all id) (by kernel_rfl) (all_c hc (all_c hc rfl))) (by kernel_rfl)) ?_
   refine vs (fun (y : Bool) => (vB y)) h (fun y hy => vop_pickV hy (p := true) (q := (true && (y11 == false))) (by kernel_rfl) (by kernel_rfl) (by kernel_rfl) (by kernel_rfl) (fun _ => rfl) (fun hb => gc_f rfl hb)) fun y12 h => (nx ?_)
   refine cd h (fun h => ?_) fun h => ?_
   refine so ?_
   let a11 : St := a10.p [(2, (vB false)), (78, (vB y12)), (77, (.ite (gF y11) (vB (!decide ((p0.sub.length : Int) = y1.1.subs))))), (76, (.ite (gF y11) (vI y1.1.subs))), (75, (.ite (gF y11) (.ptr 3 6))), (74, (.ite (gF y11) (vI (p0.sub.length : Int)))), (73, (.ite (gF y11) (.d (.sl 6 (p0.sub.map cGQuery))))), (72, (.ite (gF y11) (.ptr 1 9)))]
   refine st 1 a11 (nx (ri (tr ?_)))
   injection h with h; subst h
   exact ret1_step (v := (vB false)) (by kernel_rfl) (by kernel_rfl) (by kernel_rfl)
   refine ki (xi (so ?_))
   let a12 : St := a10.p [(80, (.d (.sl 10 (p0.kids.map cGExpr)))), (79, (.ptr 1 8)), (78, (vB y12)), (77, (.ite (gF y11) (vB (!decide ((p0.sub.length : Int) = y1.1.subs))))), (76, (.ite (gF y11) (vI y1.1.subs))), (75, (.ite (gF y11) (.ptr 3 6))), (74, (.ite (gF y11) (vI (p0.sub.length : Int)))), (73, (.ite (gF y11) (.d (.sl 6 (p0.sub.map cGQuery))))), (72, (.ite (gF y11) (.ptr 1 9)))]
   refine st 2 a12 (cs h (OK_iAreFormed p0.kids) fun y13 h => ?_)
   let a13 : St := a12.p [(82, (vB y13)), (81, (vB y13))]
   refine st 1 a13 (gp true y13 (.ptr 1 9) (fun hc => vl) (gp true y13 (.d (.sl 6 (p0.sub.map cGQuery))) (fun hc => vg hc) ?_))
   refine gcall_step (p := true) (b := y13) (m := F_gSlices_ContainsFunc_Simpl_Query_impl_Query_iIsFormed_1 p0.sub) (dflt := default) (args := [(.d (.sl 6 (p0.sub.map cGQuery))), (.fn 141 [])]) (v' := (fun y => (vB y))) h (by kernel_rfl) (OK_gSlices_ContainsFunc_Simpl_Query_impl_Query_iIsFormed_1 p0.sub) (fun hc => by kernel_rfl) (by kernel_rfl) (fun _ => rfl) (fun hc => (Eq.trans (b := ([(true && (y13 == true))] : List Bool).all id) (by kernel_rfl) (all_c hc rfl))) ?_
   clear h; intro y14 h
   refine gp true y13 (vB (!y14)) (fun hc => vg hc) (vs (fun (y : Bool) => (vB y)) h (fun y hy => vop_pickV hy (p := (true && (y13 == true))) (q := true) (by kernel_rfl) (by kernel_rfl) (by kernel_rfl) (by kernel_rfl) (fun hb => gc_t rfl hb) (fun _ => rfl)) fun y15 h => ?_)
   let a14 : St := a13.p [(2, (vB y15)), (87, (vB y15)), (86, (.ite (gT y13) (vB (!y14)))), (85, (.ite (gT y13) (vB y14))), (84, (.ite (gT y13) (.d (.sl 6 (p0.sub.map cGQuery))))), (83, (.ite (gT y13) (.ptr 1 9)))]
   refine st 1 a14 (nx (ri ?_))
   injection h with h; subst h
   exact ret1_step (v := (vB y15)) (by kernel_rfl) (by kernel_rfl) (by kernel_rfl)
 · intro F_gSlices_IndexFunc_Simpl_Query_impl_Query_iIsFormed_1 OK_gSlices_IndexFunc_Simpl_Query_impl_Query_iIsFormed_1 p0 r h
   refine acalls_of_fn trgSlices_ContainsFunc_Simpl_Query_impl_Query_iIsFormed_1 (Nat.le_of_ble_eq_true rfl) (by simp) ?_
   show avc Try.prog acgSlices_ContainsFunc_Simpl_Query_impl_Query_iIsFormed_1 (qgSlices_ContainsFunc_Simpl_Query_impl_Query_iIsFormed_1 _) ⟨[(0, (.d (.sl 6 (p0.map cGQuery)))), (1, (.fn 141 []))], []⟩
   delta acgSlices_ContainsFunc_Simpl_Query_impl_Query_iIsFormed_1
   refine so ?_
   let a0 : St := ⟨[(4, (vB false)), (0, (.d (.sl 6 (p0.map cGQuery)))), (1, (.fn 141 []))], []⟩
   refine st 1 a0 (nx (so ?_))
   let a1 : St := a0.p [(6, (.fn 141 [])), (5, (.d (.sl 6 (p0.map cGQuery))))]
   refine st 2 a1 (cs h (OK_gSlices_IndexFunc_Simpl_Query_impl_Query_iIsFormed_1 p0) fun y1 h => ?_)
   let a2 : St := a1.p [(4, (vB (decide (0 ≤ y1)))), (8, (vB (decide (0 ≤ y1)))), (7, (vI y1))]
   refine st 2 a2 (nx (ri ?_))
   injection h with h; subst h
   exact ret1_step (v := (vB (decide (0 ≤ y1)))) (by kernel_rfl) (by kernel_rfl) (by kernel_rfl)
 · intro F_gSlices_IndexFunc_Simpl_Query_impl_Query_iIsFormed_1_L0 OK_gSlices_IndexFunc_Simpl_Query_impl_Query_iIsFormed_1_L0 p0 r h
   refine acalls_of_fn trgSlices_IndexFunc_Simpl_Query_impl_Query_iIsFormed_1 (Nat.le_of_ble_eq_true rfl) (by simp) ?_
   show avc Try.prog acgSlices_IndexFunc_Simpl_Query_impl_Query_iIsFormed_1 (qgSlices_IndexFunc_Simpl_Query_impl_Query_iIsFormed_1 _) ⟨[(0, (.d (.sl 6 (p0.map cGQuery)))), (1, (.fn 141 []))], []⟩
   delta acgSlices_IndexFunc_Simpl_Query_impl_Query_iIsFormed_1
   refine so ?_
   let a0 : St := ⟨[(4, (vI 0)), (0, (.d (.sl 6 (p0.map cGQuery)))), (1, (.fn 141 []))], []⟩
   refine st 1 a0 (nx (si (so ?_)))
   let a1 : St := a0.p [(6, (.d (.sl 6 (p0.map cGQuery))))]
   refine st 1 a1 (ps (vI (p0.length : Int)) (vop_len (sz := 6) (l := p0) (f := cGQuery) (by kernel_rfl) (by kernel_rfl)) ?_)
   let a2 : St := a1.p [(8, (vI 0)), (7, (vI (p0.length : Int)))]
   exact st 1 a2 (nx (bi (loop_go (s' := stgSlices_IndexFunc_Simpl_Query_impl_Query_iIsFormed_1_L0 p0 0) (wr [] (es (es (es (es er_nil)))) br_nil) (OK_gSlices_IndexFunc_Simpl_Query_impl_Query_iIsFormed_1_L0 p0 0 _ h))))
 · intro F_iIsFormed_1 F_gSlices_IndexFunc_Simpl_Query_impl_Query_iIsFormed_1_L0 OK_iIsFormed_1 OK_gSlices_IndexFunc_Simpl_Query_impl_Query_iIsFormed_1_L0 p0 x8 r h
   delta acgSlices_IndexFunc_Simpl_Query_impl_Query_iIsFormed_1_L0
   refine loop_unroll (so ?_)
   let a3 : St := (stgSlices_IndexFunc_Simpl_Query_impl_Query_iIsFormed_1_L0 p0 x8).p [(9, (vB (decide (x8 < (p0.length : Int)))))]
   refine st 1 a3 (nx (si ?_))
   refine cd h (fun h => ?_) fun h => ?_
   refine ki (xi (si (bi (so ?_))))
   let a4 : St := a3.p [(5, (vI x8)), (10, (vI x8))]
   refine st 2 a4 (nx (so ?_))
   let a5 : St := a4.p [(13, (vI x8)), (12, (.d (.sl 6 (p0.map cGQuery)))), (11, (.fn 141 []))]
   refine st 3 a5 (vs (fun (y : GQuery) => (.rp (oGQuery y))) h (fun y hy => vop_ia (l := p0) (f := cGQuery) (g := oGQuery) (k := .i64) hy cGQuery_eq (by kernel_rfl) (by kernel_rfl) (by kernel_rfl)) fun y1 h => ?_)
   let a6 : St := a5.p [(15, (vGQuery y1)), (14, (.rp (oGQuery y1)))]
   refine st 1 a6 (callv_step (m := F_iIsFormed_1 y1) (caps := []) (args := [(vGQuery y1)]) (v' := (fun y => (vB y))) h (by kernel_rfl) (by kernel_rfl) (OK_iIsFormed_1 y1) (by kernel_rfl) (by kernel_rfl) (fun _ => rfl) ?_)
   clear h; intro y2 h
   refine nx ?_
   refine cd h (fun h => ?_) fun h => ?_
   refine so ?_
   let a7 : St := a6.p [(4, (vI x8)), (17, (vI x8)), (16, (vB y2))]
   refine st 2 a7 (nx (ri (br (tr (tr (br (tr ?_)))))))
   injection h with h; subst h
   exact ret1_step (v := (vI x8)) (by kernel_rfl) (by kernel_rfl) (by kernel_rfl)
   refine ki (bn (xi (oi ?_)))
   let a8 : St := a6.p [(8, (vI (IntKind.wrap .i64 (x8 + 1)))), (18, (vI (IntKind.wrap .i64 (x8 + 1)))), (16, (vB y2))]
   exact st 2 a8 (ni (loop_back (s' := stgSlices_IndexFunc_Simpl_Query_impl_Query_iIsFormed_1_L0 p0 (IntKind.wrap .i64 (x8 + 1))) (wr [] (es (es (es (es er_nil)))) br_nil) (OK_gSlices_IndexFunc_Simpl_Query_impl_Query_iIsFormed_1_L0 p0 (IntKind.wrap .i64 (x8 + 1)) _ h)))
   refine ei (te (te (bh (xi (so ?_)))))
   let a9 : St := a3.p [(4, (vI (-1)))]
   refine st 1 a9 (nx (ri ?_))
   injection h with h; subst h
   exact ret1_step (v := (vI (-1))) (by kernel_rfl) (by kernel_rfl) (by kernel_rfl)
theorem OK_iIsFormed_1 (p0 : GQuery) : FOk Try.prog 141 [(vGQuery p0)] (fun y => (vB y)) (iIsFormed_1 p0) := fun r h => (OKs_iIsFormed_1).1 p0 r h
theorem OK_iIsFormedQuery (p0 : GQuery) : FOk Try.prog 86 [(vGQuery p0)] (fun y => (vB y)) (iIsFormedQuery p0) := fun r h => (OKs_iIsFormed_1).2.1 p0 r h
theorem OK_iIsFormedQuery_L0 (p0 : GQuery) (x49 : Int) (r : Bool) (h : iIsFormedQuery_L0 p0 x49 = some r) : avc Try.prog aciIsFormedQuery_L0 (qiIsFormedQuery_1 r) (stiIsFormedQuery_L0 p0 x49) := (OKs_iIsFormed_1).2.2.1 p0 x49 r h
theorem OK_iIsFormedQuery_L1 (p0 : GQuery) (x92 : Int) (r : Bool) (h : iIsFormedQuery_L1 p0 x92 = some r) : avc Try.prog aciIsFormedQuery_L1 (qiIsFormedQuery_3 r) (stiIsFormedQuery_L1 p0 x92) := (OKs_iIsFormed_1).2.2.2.1 p0 x92 r h
theorem OK_iAreFormed (p0 : (List GExpr)) : FOk Try.prog 139 [(.d (.sl 10 (p0.map cGExpr)))] (fun y => (vB y)) (iAreFormed p0) := fun r h => (OKs_iIsFormed_1).2.2.2.2.1 p0 r h
theorem OK_gSlices_ContainsFunc_Simpl_Expr_impl_Expr_iAreFormed_1 (p0 : (List GExpr)) : FOk Try.prog 185 [(.d (.sl 10 (p0.map cGExpr))), (.fn 186 [])] (fun y => (vB y)) (gSlices_ContainsFunc_Simpl_Expr_impl_Expr_iAreFormed_1 p0) := fun r h => (OKs_iIsFormed_1).2.2.2.2.2.1 p0 r h
theorem OK_gSlices_IndexFunc_Simpl_Expr_impl_Expr_iAreFormed_1 (p0 : (List GExpr)) : FOk Try.prog 210 [(.d (.sl 10 (p0.map cGExpr))), (.fn 186 [])] (fun y => (vI y)) (gSlices_IndexFunc_Simpl_Expr_impl_Expr_iAreFormed_1 p0) := fun r h => (OKs_iIsFormed_1).2.2.2.2.2.2.1 p0 r h
theorem OK_gSlices_IndexFunc_Simpl_Expr_impl_Expr_iAreFormed_1_L0 (p0 : (List GExpr)) (x8 : Int) (r : Int) (h : gSlices_IndexFunc_Simpl_Expr_impl_Expr_iAreFormed_1_L0 p0 x8 = some r) : avc Try.prog acgSlices_IndexFunc_Simpl_Expr_impl_Expr_iAreFormed_1_L0 (qgSlices_IndexFunc_Simpl_Expr_impl_Expr_iAreFormed_1_1 r) (stgSlices_IndexFunc_Simpl_Expr_impl_Expr_iAreFormed_1_L0 p0 x8) := (OKs_iIsFormed_1).2.2.2.2.2.2.2.1 p0 x8 r h
theorem OK_iAreFormed_1 (p0 : GExpr) : FOk Try.prog 186 [(vGExpr p0)] (fun y => (vB y)) (iAreFormed_1 p0) := fun r h => (OKs_iIsFormed_1).2.2.2.2.2.2.2.2.1 p0 r h
theorem OK_iIsFormed (p0 : GExpr) : FOk Try.prog 82 [(vGExpr p0)] (fun y => (vB y)) (iIsFormed p0) := fun r h => (OKs_iIsFormed_1).2.2.2.2.2.2.2.2.2.1 p0 r h
theorem OK_gSlices_ContainsFunc_Simpl_Query_impl_Query_iIsFormed_1 (p0 : (List GQuery)) : FOk Try.prog 140 [(.d (.sl 6 (p0.map cGQuery))), (.fn 141 [])] (fun y => (vB y)) (gSlices_ContainsFunc_Simpl_Query_impl_Query_iIsFormed_1 p0) := fun r h => (OKs_iIsFormed_1).2.2.2.2.2.2.2.2.2.2.1 p0 r h
theorem OK_gSlices_IndexFunc_Simpl_Query_impl_Query_iIsFormed_1 (p0 : (List GQuery)) : FOk Try.prog 187 [(.d (.sl 6 (p0.map cGQuery))), (.fn 141 [])] (fun y => (vI y)) (gSlices_IndexFunc_Simpl_Query_impl_Query_iIsFormed_1 p0) := fun r h => (OKs_iIsFormed_1).2.2.2.2.2.2.2.2.2.2.2.1 p0 r h
theorem OK_gSlices_IndexFunc_Simpl_Query_impl_Query_iIsFormed_1_L0 (p0 : (List GQuery)) (x8 : Int) (r : Int) (h : gSlices_IndexFunc_Simpl_Query_impl_Query_iIsFormed_1_L0 p0 x8 = some r) : avc Try.prog acgSlices_IndexFunc_Simpl_Query_impl_Query_iIsFormed_1_L0 (qgSlices_IndexFunc_Simpl_Query_impl_Query_iIsFormed_1_1 r) (stgSlices_IndexFunc_Simpl_Query_impl_Query_iIsFormed_1_L0 p0 x8) := (OKs_iIsFormed_1).2.2.2.2.2.2.2.2.2.2.2.2 p0 x8 r h
theorem OK_iIsSmall (p0 : Int) (p1 : Int) : FOk Try.prog 80 [(vI p0), (vI p1)] (fun y => (vB y)) (iIsSmall p0 p1) := by
 intro r h
 rw [iIsSmall] at h
 refine acalls_of_fn triIsSmall (Nat.le_of_ble_eq_true rfl) (by simp) ?_
 show avc Try.prog aciIsSmall (qiIsSmall _) ⟨[(0, (vI p0)), (1, (vI p1))], []⟩
 delta aciIsSmall
 refine so ?_
 let a0 : St := ⟨[(4, (vB false)), (0, (vI p0)), (1, (vI p1))], []⟩
 refine st 1 a0 (nx (so ?_))
 let a1 : St := a0.p [(7, (vB (decide (p0 ≤ 24)))), (6, (vB (decide (p0 ≤ 24)))), (5, (vI p0))]
 refine st 3 a1 (gp true (decide (p0 ≤ 24)) (vI p1) (fun hc => vl) (gp true (decide (p0 ≤ 24)) (vB (decide (p1 ≤ 200))) (fun hc => vg hc) (vs (fun (y : Bool) => (vB y)) h (fun y hy => vop_pickV hy (p := (true && ((decide (p0 ≤ 24)) == true))) (q := true) (by kernel_rfl) (by kernel_rfl) (by kernel_rfl) (by kernel_rfl) (fun hb => gc_t rfl hb) (fun _ => rfl)) fun y1 h => ?_)))
 let a2 : St := a1.p [(4, (vB y1)), (10, (vB y1)), (9, (.ite (true && ((decide (p0 ≤ 24)) == true)) (vB (decide (p1 ≤ 200))))), (8, (.ite (true && ((decide (p0 ≤ 24)) == true)) (vI p1)))]
 refine st 1 a2 (nx (ri ?_))
 injection h with h; subst h
 exact ret1_step (v := (vB y1)) (by kernel_rfl) (by kernel_rfl) (by kernel_rfl)
theorem OKs_iDepthOf_L1 : (∀ (p0 : GExpr) (x3_3 : Int) (x23 : Int) (r : Int), iDepthOf_L1 p0 x3_3 x23 = some r → avc Try.prog aciDepthOf_L1 (qiDepthOf_3 r) (stiDepthOf_L1 p0 x3_3 x23)) ∧ (∀ (p0 : GQuery) (r : Int), iQueryDepth p0 = some r → ACalls Try.prog 17 [(vGQuery p0)] [] fun x _ => x = (fun y => (vI y)) r) ∧ (∀ (p0 : (List GExpr)) (r : Int), iDeepestOf p0 = some r → ACalls Try.prog 65 [(.d (.sl 10 (p0.map cGExpr)))] [] fun x _ => x = (fun y => (vI y)) r) ∧ (∀ (p0 : (List GExpr)) (x3 : Int) (x8 : Int) (r : Int), iDeepestOf_L0 p0 x3 x8 = some r → avc Try.prog aciDeepestOf_L0 (qiDeepestOf_1 r) (stiDeepestOf_L0 p0 x3 x8)) ∧ (∀ (p0 : GExpr) (r : Int), iDepthOf p0 = some r → ACalls Try.prog 30 [(vGExpr p0)] [] fun x _ => x = (fun y => (vI y)) r) ∧ (∀ (p0 : GExpr) (x3 : Int) (x11 : Int) (r : Int), iDepthOf_L0 p0 x3 x11 = some r → avc Try.prog aciDepthOf_L0 (qiDepthOf_1 r) (stiDepthOf_L0 p0 x3 x11)) := by
 refine iDepthOf_L1.mutual_partial_correctness (fun p0 x3_3 x23 r => avc Try.prog aciDepthOf_L1 (qiDepthOf_3 r) (stiDepthOf_L1 p0 x3_3 x23)) (fun p0 r => ACalls Try.prog 17 [(vGQuery p0)] [] fun x _ => x = (fun y => (vI y)) r) (fun p0 r => ACalls Try.prog 65 [(.d (.sl 10 (p0.map cGExpr)))] [] fun x _ => x = (fun y => (vI y)) r) (fun p0 x3 x8 r => avc Try.prog aciDeepestOf_L0 (qiDeepestOf_1 r) (stiDeepestOf_L0 p0 x3 x8)) (fun p0 r => ACalls Try.prog 30 [(vGExpr p0)] [] fun x _ => x = (fun y => (vI y)) r) (fun p0 x3 x11 r => avc Try.prog aciDepthOf_L0 (qiDepthOf_1 r) (stiDepthOf_L0 p0 x3 x11)) ?_ ?_ ?_ ?_ ?_ ?_
 · intro F_iDepthOf_L1 F_iQueryDepth OK_iDepthOf_L1 OK_iQueryDepth p0 x3_3 x23 r h
   delta aciDepthOf_L1
   refine loop_unroll (so ?_)
   let a11 : St := (stiDepthOf_L1 p0 x3_3 x23).p [(24, (vB (decide (x23 < (p0.sub.length : Int)))))]
   refine st 1 a11 (nx (si ?_))
   refine cd h (fun h => ?_) fun h => ?_
   refine ki (xi (si (bi (so (vs (fun (y : GQuery) => (.rp (oGQuery y))) h (fun y hy => vop_ia (l := p0.sub) (f := cGQuery) (g := oGQuery) (k := .i64) hy cGQuery_eq (by kernel_rfl) (by kernel_rfl) (by kernel_rfl)) fun y4 h => ?_)))))
   let a12 : St := ⟨(7, (.ptr 7 0)) :: (26, (vGQuery y4)) :: (25, (.rp (oGQuery y4))) :: a11.env, [(7, bGQuery y4)]⟩
   refine st 3 a12 (nx (oi ?_))
   let a13 : St := a12.p [(28, (vGQuery y4)), (27, (vI x3_3))]
   refine st 2 a13 (cs h (OK_iQueryDepth y4) fun y5 h => ?_)
   let a14 : St := a13.p [(3, (vI (if y5 > x3_3 then y5 else x3_3))), (30, (vI (if y5 > x3_3 then y5 else x3_3))), (29, (vI y5))]
   refine st 2 a14 (ni (bn (xi (oi ?_))))
   let a15 : St := a14.p [(23, (vI (IntKind.wrap .i64 (x23 + 1)))), (31, (vI (IntKind.wrap .i64 (x23 + 1))))]
   exact st 2 a15 (ni (loop_back (s' := stiDepthOf_L1 p0 (if y5 > x3_3 then y5 else x3_3) (IntKind.wrap .i64 (x23 + 1))) (wr [] (es (es (es (es er_nil)))) br_nil) (OK_iDepthOf_L1 p0 (if y5 > x3_3 then y5 else x3_3) (IntKind.wrap .i64 (x23 + 1)) _ h)))
   refine ei (te (te (bh (xi (so ?_)))))
   let a16 : St := a11.p [(2, (vI (IntKind.wrap .i64 (1 + x3_3)))), (33, (vI (IntKind.wrap .i64 (1 + x3_3)))), (32, (vI x3_3))]
   refine st 3 a16 (nx (ri ?_))
   injection h with h; subst h
   exact ret1_step (v := (vI (IntKind.wrap .i64 (1 + x3_3)))) (by kernel_rfl) (by kernel_rfl) (by kernel_rfl)
 · intro F_iDeepestOf OK_iDeepestOf p0 r h
   refine acalls_of_fn triQueryDepth (Nat.le_of_ble_eq_true rfl) (by simp) ?_
   show avc Try.prog aciQueryDepth (qiQueryDepth _) ⟨[(0, (vGQuery p0))], []⟩
   delta aciQueryDepth
   refine so ?_
   let a0 : St := ⟨[(2, (vI 0)), (1, (.ptr 1 0)), (0, (vGQuery p0))], [(1, bGQuery p0)]⟩
   refine st 2 a0 (nx (so ?_))
   let a1 : St := a0.p [(3, (vGQuery p0))]
   refine st 1 a1 (callg_step ⟨[], [], [], [], [], [(2000000, 4)], [], [4]⟩ (m := iQuery_exprs p0) (S' := fun (y : (List GExpr)) => ⟨(4, (.osl 4 49 10 (y.map cGExpr))) :: a1.env, a1.bx⟩) h (OK_iQuery_exprs p0) (by kernel_rfl) (by kernel_rfl) (by kernel_rfl) (by kernel_rfl) (fun y => by kernel_rfl) (fun y => by kernel_rfl) ?_)
   clear h; intro y1 h
   refine cs h (OK_iDeepestOf y1) fun y2 h => ?_
   let a2 : St := a1.p [(2, (vI y2)), (5, (vI y2)), (4, (.osl 4 49 10 (y1.map cGExpr)))]
   refine st 1 a2 (nx (ri ?_))
   injection h with h; subst h
   exact ret1_step (v := (vI y2)) (by kernel_rfl) (by kernel_rfl) (by kernel_rfl)
 · intro F_iDeepestOf_L0 OK_iDeepestOf_L0 p0 r h
   refine acalls_of_fn triDeepestOf (Nat.le_of_ble_eq_true rfl) (by simp) ?_
   show avc Try.prog aciDeepestOf (qiDeepestOf _) ⟨[(0, (.d (.sl 10 (p0.map cGExpr))))], []⟩
   delta aciDeepestOf
   refine so ?_
   let a0 : St := ⟨[(2, (vI 0)), (0, (.d (.sl 10 (p0.map cGExpr))))], []⟩
   refine st 1 a0 (nx (so ?_))
   let a1 : St := a0.p [(3, (vI 0))]
   refine st 1 a1 (nx (si (so ?_)))
   let a2 : St := a1.p [(6, (.d (.sl 10 (p0.map cGExpr))))]
   refine st 1 a2 (ps (vI (p0.length : Int)) (vop_len (sz := 10) (l := p0) (f := cGExpr) (by kernel_rfl) (by kernel_rfl)) ?_)
   let a3 : St := a2.p [(8, (vI 0)), (7, (vI (p0.length : Int)))]
   exact st 1 a3 (nx (bi (loop_go (s' := stiDeepestOf_L0 p0 0 0) (wr [] (es (es (es (es er_nil)))) br_nil) (OK_iDeepestOf_L0 p0 0 0 _ h))))
 · intro F_iDeepestOf_L0 F_iDepthOf OK_iDeepestOf_L0 OK_iDepthOf p0 x3 x8 r h
   delta aciDeepestOf_L0
   refine loop_unroll (so ?_)
   let a4 : St := (stiDeepestOf_L0 p0 x3 x8).p [(9, (vB (decide (x8 < (p0.length : Int)))))]
   refine st 1 a4 (nx (si ?_))
   refine cd h (fun h => ?_) fun h => ?_
   refine ki (xi (si (bi (so (vs (fun (y : GExpr) => (.rp (oGExpr y))) h (fun y hy => vop_ia (l := p0) (f := cGExpr) (g := oGExpr) (k := .i64) hy cGExpr_eq (by kernel_rfl) (by kernel_rfl) (by kernel_rfl)) fun y1 h => ?_)))))
   let a5 : St := ⟨(5, (.ptr 5 0)) :: (11, (vGExpr y1)) :: (10, (.rp (oGExpr y1))) :: a4.env, [(5, bGExpr y1)]⟩
   refine st 3 a5 (nx (oi ?_))
   let a6 : St := a5.p [(13, (vGExpr y1)), (12, (vI x3))]
   refine st 2 a6 (cs h (OK_iDepthOf y1) fun y2 h => ?_)
   let a7 : St := a6.p [(3, (vI (if y2 > x3 then y2 else x3))), (15, (vI (if y2 > x3 then y2 else x3))), (14, (vI y2))]
   refine st 2 a7 (ni (bn (xi (oi ?_))))
   let a8 : St := a7.p [(8, (vI (IntKind.wrap .i64 (x8 + 1)))), (16, (vI (IntKind.wrap .i64 (x8 + 1))))]
   exact st 2 a8 (ni (loop_back (s' := stiDeepestOf_L0 p0 (if y2 > x3 then y2 else x3) (IntKind.wrap .i64 (x8 + 1))) (wr [] (es (es (es (es er_nil)))) br_nil) (OK_iDeepestOf_L0 p0 (if y2 > x3 then y2 else x3) (IntKind.wrap .i64 (x8 + 1)) _ h)))
   refine ei (te (te (bh (xi (so ?_)))))
   let a9 : St := a4.p [(2, (vI x3)), (17, (vI x3))]
   refine st 2 a9 (nx (ri ?_))
   injection h with h; subst h
   exact ret1_step (v := (vI x3)) (by kernel_rfl) (by kernel_rfl) (by kernel_rfl)
 · intro F_iDepthOf_L0 OK_iDepthOf_L0 p0 r h
   refine acalls_of_fn triDepthOf (Nat.le_of_ble_eq_true rfl) (by simp) ?_
   show avc Try.prog aciDepthOf (qiDepthOf _) ⟨[(0, (vGExpr p0))], []⟩
   delta aciDepthOf
   refine so ?_
   let a0 : St := ⟨[(2, (vI 0)), (1, (.ptr 1 0)), (0, (vGExpr p0))], [(1, bGExpr p0)]⟩
   refine st 2 a0 (nx (so ?_))
   let a1 : St := a0.p [(3, (vI 0))]
   refine st 1 a1 (nx (si (so ?_)))
   let a2 : St := a1.p [(9, (.d (.sl 10 (p0.kids.map cGExpr)))), (8, (.ptr 1 8))]
   refine st 2 a2 (ps (vI (p0.kids.length : Int)) (vop_len (sz := 10) (l := p0.kids) (f := cGExpr) (by kernel_rfl) (by kernel_rfl)) ?_)
   let a3 : St := a2.p [(11, (vI 0)), (10, (vI (p0.kids.length : Int)))]
   exact st 1 a3 (nx (bi (loop_go (s' := stiDepthOf_L0 p0 0 0) (wr [] (es (es (es (es (es er_nil))))) (bs_ br_nil)) (OK_iDepthOf_L0 p0 0 0 _ h))))
 · intro F_iDepthOf_L1 F_iDepthOf F_iDepthOf_L0 OK_iDepthOf_L1 OK_iDepthOf OK_iDepthOf_L0 p0 x3 x11 r h
   delta aciDepthOf_L0
   refine loop_unroll (so ?_)
   let a4 : St := (stiDepthOf_L0 p0 x3 x11).p [(12, (vB (decide (x11 < (p0.kids.length : Int)))))]
   refine st 1 a4 (nx (si ?_))
   refine cd h (fun h => ?_) fun h => ?_
   refine ki (xi (si (bi (so (vs (fun (y : GExpr) => (.rp (oGExpr y))) h (fun y hy => vop_ia (l := p0.kids) (f := cGExpr) (g := oGExpr) (k := .i64) hy cGExpr_eq (by kernel_rfl) (by kernel_rfl) (by kernel_rfl)) fun y1 h => ?_)))))
   let a5 : St := ⟨(5, (.ptr 5 0)) :: (14, (vGExpr y1)) :: (13, (.rp (oGExpr y1))) :: a4.env, [(5, bGExpr y1), (1, bGExpr p0)]⟩
   refine st 3 a5 (nx (oi ?_))
   let a6 : St := a5.p [(16, (vGExpr y1)), (15, (vI x3))]
   refine st 2 a6 (cs h (OK_iDepthOf y1) fun y2 h => ?_)
   let a7 : St := a6.p [(3, (vI (if y2 > x3 then y2 else x3))), (18, (vI (if y2 > x3 then y2 else x3))), (17, (vI y2))]
   refine st 2 a7 (ni (bn (xi (oi ?_))))
   let a8 : St := a7.p [(11, (vI (IntKind.wrap .i64 (x11 + 1)))), (19, (vI (IntKind.wrap .i64 (x11 + 1))))]
   exact st 2 a8 (ni (loop_back (s' := stiDepthOf_L0 p0 (if y2 > x3 then y2 else x3) (IntKind.wrap .i64 (x11 + 1))) (wr [] (es (es (es (es (es er_nil))))) (bs_ br_nil)) (OK_iDepthOf_L0 p0 (if y2 > x3 then y2 else x3) (IntKind.wrap .i64 (x11 + 1)) _ h)))
   refine ei (te (te (bh (xi (si (so ?_))))))
   let a9 : St := a4.p [(21, (.d (.sl 6 (p0.sub.map cGQuery)))), (20, (.ptr 1 9))]
   refine st 2 a9 (ps (vI (p0.sub.length : Int)) (vop_len (sz := 6) (l := p0.sub) (f := cGQuery) (by kernel_rfl) (by kernel_rfl)) ?_)
   let a10 : St := a9.p [(23, (vI 0)), (22, (vI (p0.sub.length : Int)))]
   exact st 1 a10 (nx (bi (loop_go (s' := stiDepthOf_L1 p0 x3 0) (wr [] (es (es (es (es er_nil)))) br_nil) (OK_iDepthOf_L1 p0 x3 0 _ h))))
theorem OK_iDepthOf_L1 (p0 : GExpr) (x3_3 : Int) (x23 : Int) (r : Int) (h : iDepthOf_L1 p0 x3_3 x23 = some r) : avc Try.prog aciDepthOf_L1 (qiDepthOf_3 r) (stiDepthOf_L1 p0 x3_3 x23) := (OKs_iDepthOf_L1).1 p0 x3_3 x23 r h
theorem OK_iQueryDepth (p0 : GQuery) : FOk Try.prog 17 [(vGQuery p0)] (fun y => (vI y)) (iQueryDepth p0) := fun r h => (OKs_iDepthOf_L1).2.1 p0 r h
theorem OK_iDeepestOf (p0 : (List GExpr)) : FOk Try.prog 65 [(.d (.sl 10 (p0.map cGExpr)))] (fun y => (vI y)) (iDeepestOf p0) := fun r h => (OKs_iDepthOf_L1).2.2.1 p0 r h
theorem OK_iDeepestOf_L0 (p0 : (List GExpr)) (x3 : Int) (x8 : Int) (r : Int) (h : iDeepestOf_L0 p0 x3 x8 = some r) : avc Try.prog aciDeepestOf_L0 (qiDeepestOf_1 r) (stiDeepestOf_L0 p0 x3 x8) := (OKs_iDepthOf_L1).2.2.2.1 p0 x3 x8 r h
theorem OK_iDepthOf (p0 : GExpr) : FOk Try.prog 30 [(vGExpr p0)] (fun y => (vI y)) (iDepthOf p0) := fun r h => (OKs_iDepthOf_L1).2.2.2.2.1 p0 r h
theorem OK_iDepthOf_L0 (p0 : GExpr) (x3 : Int) (x11 : Int) (r : Int) (h : iDepthOf_L0 p0 x3 x11 = some r) : avc Try.prog aciDepthOf_L0 (qiDepthOf_1 r) (stiDepthOf_L0 p0 x3 x11) := (OKs_iDepthOf_L1).2.2.2.2.2 p0 x3 x11 r h
theorem OKs_iSizeOf_L0 : (∀ (p0 : GExpr) (x3 : Int) (x13 : Int) (r : Int), iSizeOf_L0 p0 x3 x13 = some r → avc Try.prog aciSizeOf_L0 (qiSizeOf_1 r) (stiSizeOf_L0 p0 x3 x13)) ∧ (∀ (p0 : GQuery) (r : Int), iQuerySize p0 = some r → ACalls Try.prog 85 [(vGQuery p0)] [] fun x _ => x = (fun y => (vI y)) r) ∧ (∀ (p0 : (List GExpr)) (r : Int), iSizeOfAll p0 = some r → ACalls Try.prog 96 [(.d (.sl 10 (p0.map cGExpr)))] [] fun x _ => x = (fun y => (vI y)) r) ∧ (∀ (p0 : (List GExpr)) (x3 : Int) (x8 : Int) (r : Int), iSizeOfAll_L0 p0 x3 x8 = some r → avc Try.prog aciSizeOfAll_L0 (qiSizeOfAll_1 r) (stiSizeOfAll_L0 p0 x3 x8)) ∧ (∀ (p0 : GExpr) (r : Int), iSizeOf p0 = some r → ACalls Try.prog 81 [(vGExpr p0)] [] fun x _ => x = (fun y => (vI y)) r) := by
 refine iSizeOf_L0.mutual_partial_correctness (fun p0 x3 x13 r => avc Try.prog aciSizeOf_L0 (qiSizeOf_1 r) (stiSizeOf_L0 p0 x3 x13)) (fun p0 r => ACalls Try.prog 85 [(vGQuery p0)] [] fun x _ => x = (fun y => (vI y)) r) (fun p0 r => ACalls Try.prog 96 [(.d (.sl 10 (p0.map cGExpr)))] [] fun x _ => x = (fun y => (vI y)) r) (fun p0 x3 x8 r => avc Try.prog aciSizeOfAll_L0 (qiSizeOfAll_1 r) (stiSizeOfAll_L0 p0 x3 x8)) (fun p0 r => ACalls Try.prog 81 [(vGExpr p0)] [] fun x _ => x = (fun y => (vI y)) r) ?_ ?_ ?_ ?_ ?_
 · intro F_iSizeOf_L0 F_iQuerySize OK_iSizeOf_L0 OK_iQuerySize p0 x3 x13 r h
   delta aciSizeOf_L0
   refine loop_unroll (so ?_)
   let a5 : St := (stiSizeOf_L0 p0 x3 x13).p [(14, (vB (decide (x13 < (p0.sub.length : Int)))))]
   refine st 1 a5 (nx (si ?_))
   refine cd h (fun h => ?_) fun h => ?_
   refine ki (xi (si (bi (so (vs (fun (y : GQuery) => (.rp (oGQuery y))) h (fun y hy => vop_ia (l := p0.sub) (f := cGQuery) (g := oGQuery) (k := .i64) hy cGQuery_eq (by kernel_rfl) (by kernel_rfl) (by kernel_rfl)) fun y2 h => ?_)))))
   let a6 : St := ⟨(5, (.ptr 5 0)) :: (16, (vGQuery y2)) :: (15, (.rp (oGQuery y2))) :: a5.env, [(5, bGQuery y2)]⟩
   refine st 3 a6 (nx (oi ?_))
   let a7 : St := a6.p [(18, (vGQuery y2)), (17, (vI x3))]
   refine st 2 a7 (cs h (OK_iQuerySize y2) fun y3 h => ?_)
   let a8 : St := a7.p [(3, (vI (IntKind.wrap .i64 (x3 + y3)))), (20, (vI (IntKind.wrap .i64 (x3 + y3)))), (19, (vI y3))]
   refine st 2 a8 (ni (bn (xi (oi ?_))))
   let a9 : St := a8.p [(13, (vI (IntKind.wrap .i64 (x13 + 1)))), (21, (vI (IntKind.wrap .i64 (x13 + 1))))]
   exact st 2 a9 (ni (loop_back (s' := stiSizeOf_L0 p0 (IntKind.wrap .i64 (x3 + y3)) (IntKind.wrap .i64 (x13 + 1))) (wr [] (es (es (es (es er_nil)))) br_nil) (OK_iSizeOf_L0 p0 (IntKind.wrap .i64 (x3 + y3)) (IntKind.wrap .i64 (x13 + 1)) _ h)))
   refine ei (te (te (bh (xi (so ?_)))))
   let a10 : St := a5.p [(2, (vI x3)), (22, (vI x3))]
   refine st 2 a10 (nx (ri ?_))
   injection h with h; subst h
   exact ret1_step (v := (vI x3)) (by kernel_rfl) (by kernel_rfl) (by kernel_rfl)
 · intro F_iSizeOfAll OK_iSizeOfAll p0 r h
   refine acalls_of_fn triQuerySize (Nat.le_of_ble_eq_true rfl) (by simp) ?_
   show avc Try.prog aciQuerySize (qiQuerySize _) ⟨[(0, (vGQuery p0))], []⟩
   delta aciQuerySize
   refine so ?_
   let a0 : St := ⟨[(2, (vI 0)), (1, (.ptr 1 0)), (0, (vGQuery p0))], [(1, bGQuery p0)]⟩
   refine st 2 a0 (nx (so ?_))
   let a1 : St := a0.p [(3, (vGQuery p0))]
   refine st 1 a1 (callg_step ⟨[], [], [], [], [], [(2000000, 4)], [], [4]⟩ (m := iQuery_exprs p0) (S' := fun (y : (List GExpr)) => ⟨(4, (.osl 4 49 10 (y.map cGExpr))) :: a1.env, a1.bx⟩) h (OK_iQuery_exprs p0) (by kernel_rfl) (by kernel_rfl) (by kernel_rfl) (by kernel_rfl) (fun y => by kernel_rfl) (fun y => by kernel_rfl) ?_)
   clear h; intro y1 h
   refine cs h (OK_iSizeOfAll y1) fun y2 h => ?_
   let a2 : St := a1.p [(2, (vI y2)), (5, (vI y2)), (4, (.osl 4 49 10 (y1.map cGExpr)))]
   refine st 1 a2 (nx (ri ?_))
   injection h with h; subst h
   exact ret1_step (v := (vI y2)) (by kernel_rfl) (by kernel_rfl) (by kernel_rfl)
 · intro F_iSizeOfAll_L0 OK_iSizeOfAll_L0 p0 r h
   refine acalls_of_fn triSizeOfAll (Nat.le_of_ble_eq_true rfl) (by simp) ?_
   show avc Try.prog aciSizeOfAll (qiSizeOfAll _) ⟨[(0, (.d (.sl 10 (p0.map cGExpr))))], []⟩
   delta aciSizeOfAll
   refine so ?_
   let a0 : St := ⟨[(2, (vI 0)), (0, (.d (.sl 10 (p0.map cGExpr))))], []⟩
   refine st 1 a0 (nx (so ?_))
   let a1 : St := a0.p [(3, (vI 0))]
   refine st 1 a1 (nx (si (so ?_)))
   let a2 : St := a1.p [(6, (.d (.sl 10 (p0.map cGExpr))))]
   refine st 1 a2 (ps (vI (p0.length : Int)) (vop_len (sz := 10) (l := p0) (f := cGExpr) (by kernel_rfl) (by kernel_rfl)) ?_)
   let a3 : St := a2.p [(8, (vI 0)), (7, (vI (p0.length : Int)))]
   exact st 1 a3 (nx (bi (loop_go (s' := stiSizeOfAll_L0 p0 0 0) (wr [] (es (es (es (es er_nil)))) br_nil) (OK_iSizeOfAll_L0 p0 0 0 _ h))))
 · intro F_iSizeOfAll_L0 F_iSizeOf OK_iSizeOfAll_L0 OK_iSizeOf p0 x3 x8 r h
   delta aciSizeOfAll_L0
   refine loop_unroll (so ?_)
   let a4 : St := (stiSizeOfAll_L0 p0 x3 x8).p [(9, (vB (decide (x8 < (p0.length : Int)))))]
   refine st 1 a4 (nx (si ?_))
   refine cd h (fun h => ?_) fun h => ?_
   refine ki (xi (si (bi (so (vs (fun (y : GExpr) => (.rp (oGExpr y))) h (fun y hy => vop_ia (l := p0) (f := cGExpr) (g := oGExpr) (k := .i64) hy cGExpr_eq (by kernel_rfl) (by kernel_rfl) (by kernel_rfl)) fun y1 h => ?_)))))
   let a5 : St := ⟨(5, (.ptr 5 0)) :: (11, (vGExpr y1)) :: (10, (.rp (oGExpr y1))) :: a4.env, [(5, bGExpr y1)]⟩
   refine st 3 a5 (nx (oi ?_))
   let a6 : St := a5.p [(13, (vGExpr y1)), (12, (vI x3))]
   refine st 2 a6 (cs h (OK_iSizeOf y1) fun y2 h => ?_)
   let a7 : St := a6.p [(3, (vI (IntKind.wrap .i64 (x3 + y2)))), (15, (vI (IntKind.wrap .i64 (x3 + y2)))), (14, (vI y2))]
   refine st 2 a7 (ni (bn (xi (oi ?_))))
   let a8 : St := a7.p [(8, (vI (IntKind.wrap .i64 (x8 + 1)))), (16, (vI (IntKind.wrap .i64 (x8 + 1))))]
   exact st 2 a8 (ni (loop_back (s' := stiSizeOfAll_L0 p0 (IntKind.wrap .i64 (x3 + y2)) (IntKind.wrap .i64 (x8 + 1))) (wr [] (es (es (es (es er_nil)))) br_nil) (OK_iSizeOfAll_L0 p0 (IntKind.wrap .i64 (x3 + y2)) (IntKind.wrap .i64 (x8 + 1)) _ h)))
   refine ei (te (te (bh (xi (so ?_)))))
   let a9 : St := a4.p [(2, (vI x3)), (17, (vI x3))]
   refine st 2 a9 (nx (ri ?_))
   injection h with h; subst h
   exact ret1_step (v := (vI x3)) (by kernel_rfl) (by kernel_rfl) (by kernel_rfl)
 · intro F_iSizeOf_L0 F_iSizeOfAll OK_iSizeOf_L0 OK_iSizeOfAll p0 r h
   refine acalls_of_fn triSizeOf (Nat.le_of_ble_eq_true rfl) (by simp) ?_
   show avc Try.prog aciSizeOf (qiSizeOf _) ⟨[(0, (vGExpr p0))], []⟩
   delta aciSizeOf
   refine so ?_
   let a0 : St := ⟨[(2, (vI 0)), (1, (.ptr 1 0)), (0, (vGExpr p0))], [(1, bGExpr p0)]⟩
   refine st 2 a0 (nx (so ?_))
   let a1 : St := a0.p [(7, (.d (.sl 10 (p0.kids.map cGExpr)))), (6, (.ptr 1 8))]
   refine st 2 a1 (cs h (OK_iSizeOfAll p0.kids) fun y1 h => ?_)
   let a2 : St := a1.p [(3, (vI (IntKind.wrap .i64 (1 + y1)))), (9, (vI (IntKind.wrap .i64 (1 + y1)))), (8, (vI y1))]
   refine st 2 a2 (nx (si (so ?_)))
   let a3 : St := a2.p [(11, (.d (.sl 6 (p0.sub.map cGQuery)))), (10, (.ptr 1 9))]
   refine st 2 a3 (ps (vI (p0.sub.length : Int)) (vop_len (sz := 6) (l := p0.sub) (f := cGQuery) (by kernel_rfl) (by kernel_rfl)) ?_)
   let a4 : St := a3.p [(13, (vI 0)), (12, (vI (p0.sub.length : Int)))]
   exact st 1 a4 (nx (bi (loop_go (s' := stiSizeOf_L0 p0 (IntKind.wrap .i64 (1 + y1)) 0) (wr [] (es (es (es (es er_nil)))) br_nil) (OK_iSizeOf_L0 p0 (IntKind.wrap .i64 (1 + y1)) 0 _ h))))
theorem OK_iSizeOf_L0 (p0 : GExpr) (x3 : Int) (x13 : Int) (r : Int) (h : iSizeOf_L0 p0 x3 x13 = some r) : avc Try.prog aciSizeOf_L0 (qiSizeOf_1 r) (stiSizeOf_L0 p0 x3 x13) := (OKs_iSizeOf_L0).1 p0 x3 x13 r h
theorem OK_iQuerySize (p0 : GQuery) : FOk Try.prog 85 [(vGQuery p0)] (fun y => (vI y)) (iQuerySize p0) := fun r h => (OKs_iSizeOf_L0).2.1 p0 r h
theorem OK_iSizeOfAll (p0 : (List GExpr)) : FOk Try.prog 96 [(.d (.sl 10 (p0.map cGExpr)))] (fun y => (vI y)) (iSizeOfAll p0) := fun r h => (OKs_iSizeOf_L0).2.2.1 p0 r h
theorem OK_iSizeOfAll_L0 (p0 : (List GExpr)) (x3 : Int) (x8 : Int) (r : Int) (h : iSizeOfAll_L0 p0 x3 x8 = some r) : avc Try.prog aciSizeOfAll_L0 (qiSizeOfAll_1 r) (stiSizeOfAll_L0 p0 x3 x8) := (OKs_iSizeOf_L0).2.2.2.1 p0 x3 x8 r h
theorem OK_iSizeOf (p0 : GExpr) : FOk Try.prog 81 [(vGExpr p0)] (fun y => (vI y)) (iSizeOf p0) := fun r h => (OKs_iSizeOf_L0).2.2.2.2 p0 r h
theorem OK_iQueryOk (p0 : GQuery) : FOk Try.prog 31 [(vGQuery p0)] (fun y => (vB y)) (iQueryOk p0) := by
 intro r h
 rw [iQueryOk] at h
 refine acalls_of_fn triQueryOk (Nat.le_of_ble_eq_true rfl) (by simp) ?_
 show avc Try.prog aciQueryOk (qiQueryOk _) ⟨[(0, (vGQuery p0))], []⟩
 delta aciQueryOk
 refine so ?_
 let a0 : St := ⟨[(2, (vB false)), (1, (.ptr 1 0)), (0, (vGQuery p0))], [(1, bGQuery p0)]⟩
 refine st 2 a0 (nx (si (dops_in ?_)))
 let a1 : St := a0.p [(3, (vGQuery p0))]
 refine dsts_ok 1 (s' := a1) (by kernel_rfl) (dcall_step (m := iQueryDepth p0) (args := [(vGQuery p0)]) (v' := (fun y => (vI y))) h (OK_iQueryDepth p0) (by kernel_rfl) (by kernel_rfl) (fun _ => rfl) ?_)
 clear h; intro y1 h
 let a2 : St := a1.p [(5, (vGQuery p0)), (4, (vI y1))]
 refine dsts_ok 1 (s' := a2) (by kernel_rfl) (dcall_step (m := iQuerySize p0) (args := [(vGQuery p0)]) (v' := (fun y => (vI y))) h (OK_iQuerySize p0) (by kernel_rfl) (by kernel_rfl) (fun _ => rfl) ?_)
 clear h; intro y2 h
 refine dcall_step (m := iIsSmall y1 y2) (args := [(vI y1), (vI y2)]) (v' := (fun y => (vB y))) h (OK_iIsSmall y1 y2) (by kernel_rfl) (by kernel_rfl) (fun _ => rfl) ?_
 clear h; intro y3 h
 let a3 : St := a2.p [(8, (vB y3)), (7, (vB y3)), (6, (vI y2))]
 refine dsts_ok 1 (s' := a3) (by kernel_rfl) (dgp_step (p := true) (b := y3) (v' := (vGQuery p0)) (by kernel_rfl) rfl rfl (fun hc => vl) ?_)
 refine dgcall_step (p := true) (b := y3) (m := iIsFormedQuery p0) (dflt := default) (args := [(vGQuery p0)]) (v' := (fun y => (vB y))) h (by kernel_rfl) (OK_iIsFormedQuery p0) (fun hc => by kernel_rfl) (by kernel_rfl) (fun _ => rfl) (fun hc => (Eq.trans (b := ([(true && (y3 == true))] : List Bool).all id) (by kernel_rfl) (all_c hc rfl))) ?_
 clear h; intro y4 h
 refine dv_step (m := some (if y3 = true then y4 else false)) (v' := fun y => (vB y)) h rfl rfl (fun y hy => vop_pickV hy (p := (true && (y3 == true))) (q := true) (by kernel_rfl) (by kernel_rfl) (by kernel_rfl) (by kernel_rfl) (fun hb => gc_t rfl hb) (fun _ => rfl)) ?_
 clear h; intro y5 h
 let a4 : St := a3.p [(2, (vB y5)), (11, (vB y5)), (10, (.ite (gT y3) (vB y4))), (9, (.ite (gT y3) (vGQuery p0)))]
 refine dsts_ok 1 (s' := a4) (by kernel_rfl) (dnil_in (by kernel_rfl) (by kernel_rfl) (xi (ri ?_)))
 injection h with h; subst h
 exact ret1_step (v := (vB y5)) (by kernel_rfl) (by kernel_rfl) (by kernel_rfl)
theorem OK_sL1In (p0 : Int) (p1 : Int) (p2 : Int) : FOk Try.prog 126 [(vI p0), (vI p1), (vI p2)] (fun y => (vB y)) (sL1In p0 p1 p2) := by
 intro r h
 rw [sL1In] at h
 refine acalls_of_fn trsL1In (Nat.le_of_ble_eq_true rfl) (by simp) ?_
 show avc Try.prog acsL1In (qsL1In _) ⟨[(0, (vI p0)), (1, (vI p1)), (2, (vI p2))], []⟩
 delta acsL1In
 refine so ?_
 let a0 : St := ⟨[(6, (vB false)), (0, (vI p0)), (1, (vI p1)), (2, (vI p2))], []⟩
 refine st 1 a0 (nx (so ?_))
 let a1 : St := a0.p [(10, (vB (decide (p1 ≤ p0)))), (9, (vB (decide (p1 ≤ p0)))), (8, (vI p1)), (7, (vI p0))]
 refine st 4 a1 (gp true (decide (p1 ≤ p0)) (vI p0) (fun hc => vl) (gp true (decide (p1 ≤ p0)) (vI p2) (fun hc => vl) (gp true (decide (p1 ≤ p0)) (vB (decide (p0 ≤ p2))) (fun hc => vop_val1 (Eq.trans (b := ([(true && ((decide (p1 ≤ p0)) == true)), (true && ((decide (p1 ≤ p0)) == true))] : List Bool).all id) (by kernel_rfl) (all_c hc (all_c hc rfl))) (by kernel_rfl)) ?_)))
 refine vs (fun (y : Bool) => (vB y)) h (fun y hy => vop_pickV hy (p := (true && ((decide (p1 ≤ p0)) == true))) (q := true) (by kernel_rfl) (by kernel_rfl) (by kernel_rfl) (by kernel_rfl) (fun hb => gc_t rfl hb) (fun _ => rfl)) fun y1 h => ?_
 let a2 : St := a1.p [(6, (vB y1)), (14, (vB y1)), (13, (.ite (true && ((decide (p1 ≤ p0)) == true)) (vB (decide (p0 ≤ p2))))), (12, (.ite (true && ((decide (p1 ≤ p0)) == true)) (vI p2))), (11, (.ite (true && ((decide (p1 ≤ p0)) == true)) (vI p0)))]
 refine st 1 a2 (nx (ri ?_))
 injection h with h; subst h
 exact ret1_step (v := (vB y1)) (by kernel_rfl) (by kernel_rfl) (by kernel_rfl)
theorem OK_sNameOk (p0 : (List UInt8)) : FOk Try.prog 155 [(vS p0)] (fun y => (vB y)) (sNameOk p0) := by
 intro r h
 rw [sNameOk] at h
 refine acalls_of_fn trsNameOk (Nat.le_of_ble_eq_true rfl) (by simp) ?_
 show avc Try.prog acsNameOk (qsNameOk _) ⟨[(0, (vS p0))], []⟩
 delta acsNameOk
 refine so ?_
 let a0 : St := ⟨[(2, (vB false)), (0, (vS p0))], []⟩
 refine st 1 a0 (nx (so ?_))
 let a1 : St := a0.p [(4, (vI (p0.length : Int))), (3, (vS p0))]
 refine st 2 a1 (cs h (OK_sL1In (p0.length : Int) 1 20) fun y1 h => ?_)
 let a2 : St := a1.p [(2, (vB y1)), (5, (vB y1))]
 refine st 1 a2 (nx (ri ?_))
 injection h with h; subst h
 exact ret1_step (v := (vB y1)) (by kernel_rfl) (by kernel_rfl) (by kernel_rfl)
theorem OK_sL7Maybe (p0 : (List UInt8)) : FOk Try.prog 153 [(vS p0)] (fun y => (vB y)) (sL7Maybe p0) := by
 intro r h
 rw [sL7Maybe] at h
 refine acalls_of_fn trsL7Maybe (Nat.le_of_ble_eq_true rfl) (by simp) ?_
 show avc Try.prog acsL7Maybe (qsL7Maybe _) ⟨[(0, (vS p0))], []⟩
 delta acsL7Maybe
 refine so ?_
 let a0 : St := ⟨[(2, (vB false)), (0, (vS p0))], []⟩
 refine st 1 a0 (nx (so ?_))
 let a1 : St := a0.p [(5, (vB (decide (p0 = [])))), (4, (vB (decide (p0 = [])))), (3, (vS p0))]
 refine st 3 a1 (gp true (decide (p0 = [])) (vS p0) (fun hc => vl) ?_)
 refine gcall_step (p := true) (b := (decide (p0 = []))) (m := sNameOk p0) (dflt := default) (args := [(vS p0)]) (v' := (fun y => (vB y))) h (by kernel_rfl) (OK_sNameOk p0) (fun hc => by kernel_rfl) (by kernel_rfl) (fun _ => rfl) (fun hc => (Eq.trans (b := ([(true && ((decide (p0 = [])) == false))] : List Bool).all id) (by kernel_rfl) (all_c hc rfl))) ?_
 clear h; intro y1 h
 refine vs (fun (y : Bool) => (vB y)) h (fun y hy => vop_pickV hy (p := true) (q := (true && ((decide (p0 = [])) == false))) (by kernel_rfl) (by kernel_rfl) (by kernel_rfl) (by kernel_rfl) (fun _ => rfl) (fun hb => gc_f rfl hb)) fun y2 h => ?_
 let a2 : St := a1.p [(2, (vB y2)), (8, (vB y2)), (7, (.ite (true && ((decide (p0 = [])) == false)) (vB y1))), (6, (.ite (true && ((decide (p0 = [])) == false)) (vS p0)))]
 refine st 1 a2 (nx (ri ?_))
 injection h with h; subst h
 exact ret1_step (v := (vB y2)) (by kernel_rfl) (by kernel_rfl) (by kernel_rfl)
theorem OKs_sL7Exprs_L3 (p0 : GQuery) : (∀ (x3_9 : (List GExpr)) (x6 : Int) (r : (List GExpr)), sL7Exprs_L3 p0 x3_9 x6 = some r → avc Try.prog acsL7Exprs_L3 (qsL7Exprs_6 r) (stsL7Exprs_L3 p0 x3_9 x6)) := by
 refine sL7Exprs_L3.partial_correctness p0 (fun x3_9 x6 r => avc Try.prog acsL7Exprs_L3 (qsL7Exprs_6 r) (stsL7Exprs_L3 p0 x3_9 x6)) ?_
 · intro F_sL7Exprs_L3 OK_sL7Exprs_L3 x3_9 x6 r h
   delta acsL7Exprs_L3
   refine loop_unroll (si (so ?_))
   let a21 : St := (stsL7Exprs_L3 p0 x3_9 x6).p [(52, (.d (.sl 11 (p0.order.map cGSortKey)))), (51, (.ptr 1 4)), (50, (vI x6))]
   refine st 3 a21 (ps (vI (p0.order.length : Int)) (vop_len (sz := 11) (l := p0.order) (f := cGSortKey) (by kernel_rfl) (by kernel_rfl)) ?_)
   let a22 : St := a21.p [(54, (vB (decide (x6 < (p0.order.length : Int))))), (53, (vI (p0.order.length : Int)))]
   refine st 1 a22 (nx ?_)
   refine cd h (fun h => ?_) fun h => ?_
   refine ki (xi (si (bi (oi ?_))))
   let a23 : St := a22.p [(60, (vI x6)), (59, (.d (.sl 11 (p0.order.map cGSortKey)))), (58, (.ptr 1 4)), (57, (.osl 3 49 10 (x3_9.map cGExpr)))]
   refine st 4 a23 (vs (fun (y : GSortKey) => (.rp (oGSortKey y))) h (fun y hy => vop_ia (l := p0.order) (f := cGSortKey) (g := oGSortKey) (k := .i64) hy cGSortKey_eq (by kernel_rfl) (by kernel_rfl) (by kernel_rfl)) fun y10 h => ?_)
   let a24 : St := a23.p [(63, (vGExpr y10.expr)), (62, (.rp [(.i .i64 y10.expr.kind), (.i .i64 y10.expr.op), (.b y10.expr.not_), (.i .i64 y10.expr.value.kind), (.i .i64 y10.expr.value.num), (.s (bs y10.expr.value.text)), (.s (bs y10.expr.qual)), (.s (bs y10.expr.name)), (.sl 10 (y10.expr.kids.map cGExpr)), (.sl 6 (y10.expr.sub.map cGQuery)), (.b y10.desc)])), (61, (.rp (oGSortKey y10)))]
   refine st 2 a24 (bsl_step (l := ([y10.expr] : List GExpr)) (f := cGExpr) (g := oGExpr) (by kernel_rfl) cGExpr_eq (by kernel_rfl) ?_)
   refine app_step (t := 3) (l := x3_9) (m := ([y10.expr] : List GExpr)) (f := cGExpr) (S' := fun y => ⟨[(65, (.osl 65 49 10 (y.map cGExpr))), (64, (.osl 64 49 10 (([y10.expr] : List GExpr).map cGExpr))), (63, (vGExpr y10.expr)), (62, (.rp [(.i .i64 y10.expr.kind), (.i .i64 y10.expr.op), (.b y10.expr.not_), (.i .i64 y10.expr.value.kind), (.i .i64 y10.expr.value.num), (.s (bs y10.expr.value.text)), (.s (bs y10.expr.qual)), (.s (bs y10.expr.name)), (.sl 10 (y10.expr.kids.map cGExpr)), (.sl 6 (y10.expr.sub.map cGQuery)), (.b y10.desc)])), (61, (.rp (oGSortKey y10))), (60, (vI x6)), (59, (.d (.sl 11 (p0.order.map cGSortKey)))), (58, (.ptr 1 4)), (57, (.d (.sl 10 (x3_9.map cGExpr)))), (54, (vB (decide (x6 < (p0.order.length : Int))))), (53, (vI (p0.order.length : Int))), (52, (.d (.sl 11 (p0.order.map cGSortKey)))), (51, (.ptr 1 4)), (50, (vI x6)), (1, (.ptr 1 0)), (3, (.d (.sl 10 (x3_9.map cGExpr)))), (6, (vI x6))], [(1, bGQuery p0)]⟩) h (by kernel_rfl) (by kernel_rfl) (by kernel_rfl) (by kernel_rfl) (fun y => by kernel_rfl) ?_
   clear h; intro y11 h
   let a25 : St := ⟨[(3, (.osl 3 49 10 (y11.map cGExpr))), (65, (.d (.sl 10 (y11.map cGExpr)))), (64, (.osl 64 49 10 (([y10.expr] : List GExpr).map cGExpr))), (63, (vGExpr y10.expr)), (62, (.rp [(.i .i64 y10.expr.kind), (.i .i64 y10.expr.op), (.b y10.expr.not_), (.i .i64 y10.expr.value.kind), (.i .i64 y10.expr.value.num), (.s (bs y10.expr.value.text)), (.s (bs y10.expr.qual)), (.s (bs y10.expr.name)), (.sl 10 (y10.expr.kids.map cGExpr)), (.sl 6 (y10.expr.sub.map cGQuery)), (.b y10.desc)])), (61, (.rp (oGSortKey y10))), (60, (vI x6)), (59, (.d (.sl 11 (p0.order.map cGSortKey)))), (58, (.ptr 1 4)), (57, (.d (.sl 10 (x3_9.map cGExpr)))), (54, (vB (decide (x6 < (p0.order.length : Int))))), (53, (vI (p0.order.length : Int))), (52, (.d (.sl 11 (p0.order.map cGSortKey)))), (51, (.ptr 1 4)), (50, (vI x6)), (1, (.ptr 1 0)), (3, (.d (.sl 10 (x3_9.map cGExpr)))), (6, (vI x6))], [(1, bGQuery p0)]⟩
   refine st 1 a25 (ni (bn (xi (oi ?_))))
   let a26 : St := a25.p [(6, (vI (IntKind.wrap .i64 (x6 + 1)))), (56, (vI (IntKind.wrap .i64 (x6 + 1)))), (55, (vI x6))]
   exact st 3 a26 (ni (loop_back (s' := stsL7Exprs_L3 p0 y11 (IntKind.wrap .i64 (x6 + 1))) (wr [(3, .old 3)] (es (eo 3 (es er_nil))) (bs_ br_nil)) (OK_sL7Exprs_L3 y11 (IntKind.wrap .i64 (x6 + 1)) _ h)))
   refine ei (te (te (bh (xi (so ?_)))))
   let a27 : St := ⟨[(2, (.osl 2 49 10 (x3_9.map cGExpr))), (66, (.d (.sl 10 (x3_9.map cGExpr)))), (54, (vB (decide (x6 < (p0.order.length : Int))))), (53, (vI (p0.order.length : Int))), (52, (.d (.sl 11 (p0.order.map cGSortKey)))), (51, (.ptr 1 4)), (50, (vI x6)), (1, (.ptr 1 0)), (3, (.d (.sl 10 (x3_9.map cGExpr)))), (6, (vI x6))], [(1, bGQuery p0)]⟩
   refine st 2 a27 (nx (ret_wk (s' := ⟨[(2, (.osl 2000000 49 10 (x3_9.map cGExpr)))], []⟩) (wr [(2000000, .old 2)] (eo 2 er_nil) br_nil) ?_))
   injection h with h; subst h
   exact ret1_step (v := (.osl 2000000 49 10 (x3_9.map cGExpr))) (by kernel_rfl) (by kernel_rfl) ⟨by kernel_rfl, trivial⟩
theorem OK_sL7Exprs_L3 (p0 : GQuery) (x3_9 : (List GExpr)) (x6 : Int) (r : (List GExpr)) (h : sL7Exprs_L3 p0 x3_9 x6 = some r) : avc Try.prog acsL7Exprs_L3 (qsL7Exprs_6 r) (stsL7Exprs_L3 p0 x3_9 x6) := (OKs_sL7Exprs_L3 p0) x3_9 x6 r h
theorem OKs_sL7Exprs_L2 (p0 : GQuery) : (∀ (x3_5 : (List GExpr)) (x5 : Int) (r : (List GExpr)), sL7Exprs_L2 p0 x3_5 x5 = some r → avc Try.prog acsL7Exprs_L2 (qsL7Exprs_4 r) (stsL7Exprs_L2 p0 x3_5 x5)) := by
 refine sL7Exprs_L2.partial_correctness p0 (fun x3_5 x5 r => avc Try.prog acsL7Exprs_L2 (qsL7Exprs_4 r) (stsL7Exprs_L2 p0 x3_5 x5)) ?_
 · intro F_sL7Exprs_L2 OK_sL7Exprs_L2 x3_5 x5 r h
   delta acsL7Exprs_L2
   refine loop_unroll (si (so ?_))
   let a12 : St := (stsL7Exprs_L2 p0 x3_5 x5).p [(33, (.d (.sl 3 (p0.from_.map cGSource)))), (32, (.ptr 1 2)), (31, (vI x5))]
   refine st 3 a12 (ps (vI (p0.from_.length : Int)) (vop_len (sz := 3) (l := p0.from_) (f := cGSource) (by kernel_rfl) (by kernel_rfl)) ?_)
   let a13 : St := a12.p [(35, (vB (decide (x5 < (p0.from_.length : Int))))), (34, (vI (p0.from_.length : Int)))]
   refine st 1 a13 (nx ?_)
   refine cd h (fun h => ?_) fun h => ?_
   refine ki (xi (si (bi (oi ?_))))
   let a14 : St := a13.p [(41, (vI x5)), (40, (.d (.sl 3 (p0.from_.map cGSource)))), (39, (.ptr 1 2)), (38, (.osl 3 49 10 (x3_5.map cGExpr)))]
   refine st 4 a14 (vs (fun (y : GSource) => (.rp (oGSource y))) h (fun y hy => vop_ia (l := p0.from_) (f := cGSource) (g := oGSource) (k := .i64) hy cGSource_eq (by kernel_rfl) (by kernel_rfl) (by kernel_rfl)) fun y6 h => ?_)
   let a15 : St := a14.p [(44, (.d (.sl 10 (y6.on_.map cGExpr)))), (43, (.rp [(.sl 10 (y6.on_.map cGExpr))])), (42, (.rp (oGSource y6)))]
   refine st 2 a15 ?_
   refine app_step (t := 3) (l := x3_5) (m := y6.on_) (f := cGExpr) (S' := fun y => ⟨[(45, (.osl 45 49 10 (y.map cGExpr))), (44, (.d (.sl 10 (y6.on_.map cGExpr)))), (43, (.rp [(.sl 10 (y6.on_.map cGExpr))])), (42, (.rp (oGSource y6))), (41, (vI x5)), (40, (.d (.sl 3 (p0.from_.map cGSource)))), (39, (.ptr 1 2)), (38, (.d (.sl 10 (x3_5.map cGExpr)))), (35, (vB (decide (x5 < (p0.from_.length : Int))))), (34, (vI (p0.from_.length : Int))), (33, (.d (.sl 3 (p0.from_.map cGSource)))), (32, (.ptr 1 2)), (31, (vI x5)), (1, (.ptr 1 0)), (3, (.d (.sl 10 (x3_5.map cGExpr)))), (5, (vI x5))], [(1, bGQuery p0)]⟩) h (by kernel_rfl) (by kernel_rfl) (by kernel_rfl) (by kernel_rfl) (fun y => by kernel_rfl) ?_
   clear h; intro y7 h
   let a16 : St := ⟨[(3, (.osl 3 49 10 (y7.map cGExpr))), (45, (.d (.sl 10 (y7.map cGExpr)))), (44, (.d (.sl 10 (y6.on_.map cGExpr)))), (43, (.rp [(.sl 10 (y6.on_.map cGExpr))])), (42, (.rp (oGSource y6))), (41, (vI x5)), (40, (.d (.sl 3 (p0.from_.map cGSource)))), (39, (.ptr 1 2)), (38, (.d (.sl 10 (x3_5.map cGExpr)))), (35, (vB (decide (x5 < (p0.from_.length : Int))))), (34, (vI (p0.from_.length : Int))), (33, (.d (.sl 3 (p0.from_.map cGSource)))), (32, (.ptr 1 2)), (31, (vI x5)), (1, (.ptr 1 0)), (3, (.d (.sl 10 (x3_5.map cGExpr)))), (5, (vI x5))], [(1, bGQuery p0)]⟩
   refine st 1 a16 (ni (bn (xi (oi ?_))))
   let a17 : St := a16.p [(5, (vI (IntKind.wrap .i64 (x5 + 1)))), (37, (vI (IntKind.wrap .i64 (x5 + 1)))), (36, (vI x5))]
   exact st 3 a17 (ni (loop_back (s' := stsL7Exprs_L2 p0 y7 (IntKind.wrap .i64 (x5 + 1))) (wr [(3, .old 3)] (es (eo 3 (es er_nil))) (bs_ br_nil)) (OK_sL7Exprs_L2 y7 (IntKind.wrap .i64 (x5 + 1)) _ h)))
   refine ei (te (te (bh (xi (so ?_)))))
   let a18 : St := a13.p [(48, (.d (.sl 10 (p0.where_.map cGExpr)))), (47, (.ptr 1 3)), (46, (.osl 3 49 10 (x3_5.map cGExpr)))]
   refine st 3 a18 ?_
   refine app_step (t := 3) (l := x3_5) (m := p0.where_) (f := cGExpr) (S' := fun y => ⟨[(49, (.osl 49 49 10 (y.map cGExpr))), (48, (.d (.sl 10 (p0.where_.map cGExpr)))), (47, (.ptr 1 3)), (46, (.d (.sl 10 (x3_5.map cGExpr)))), (35, (vB (decide (x5 < (p0.from_.length : Int))))), (34, (vI (p0.from_.length : Int))), (33, (.d (.sl 3 (p0.from_.map cGSource)))), (32, (.ptr 1 2)), (31, (vI x5)), (1, (.ptr 1 0)), (3, (.d (.sl 10 (x3_5.map cGExpr)))), (5, (vI x5))], [(1, bGQuery p0)]⟩) h (by kernel_rfl) (by kernel_rfl) (by kernel_rfl) (by kernel_rfl) (fun y => by kernel_rfl) ?_
   clear h; intro y8 h
   let a19 : St := ⟨[(3, (.osl 3 49 10 (y8.map cGExpr))), (49, (.d (.sl 10 (y8.map cGExpr)))), (48, (.d (.sl 10 (p0.where_.map cGExpr)))), (47, (.ptr 1 3)), (46, (.d (.sl 10 (x3_5.map cGExpr)))), (35, (vB (decide (x5 < (p0.from_.length : Int))))), (34, (vI (p0.from_.length : Int))), (33, (.d (.sl 3 (p0.from_.map cGSource)))), (32, (.ptr 1 2)), (31, (vI x5)), (1, (.ptr 1 0)), (3, (.d (.sl 10 (x3_5.map cGExpr)))), (5, (vI x5))], [(1, bGQuery p0)]⟩
   refine st 1 a19 (nx (si (so ?_)))
   let a20 : St := a19.p [(6, (vI 0))]
   exact st 1 a20 (nx (bi (loop_go (s' := stsL7Exprs_L3 p0 y8 0) (wr [(3, .old 3)] (es (eo 3 (es er_nil))) (bs_ br_nil)) (OK_sL7Exprs_L3 p0 y8 0 _ h))))
theorem OK_sL7Exprs_L2 (p0 : GQuery) (x3_5 : (List GExpr)) (x5 : Int) (r : (List GExpr)) (h : sL7Exprs_L2 p0 x3_5 x5 = some r) : avc Try.prog acsL7Exprs_L2 (qsL7Exprs_4 r) (stsL7Exprs_L2 p0 x3_5 x5) := (OKs_sL7Exprs_L2 p0) x3_5 x5 r h
theorem OKs_sL7Exprs_J1 (p0 : GQuery) : (∀ (x4 : Int) (x3_4 : (List GExpr)) (r : (List GExpr)), sL7Exprs_J1 x4 p0 x3_4 = some r → avc Try.prog acsL7Exprs_J1 (qsL7Exprs_2 r) (stsL7Exprs_J1 x4 p0 x3_4)) ∧ (∀ (x3 : (List GExpr)) (x4 : Int) (r : (List GExpr)), sL7Exprs_L0 p0 x3 x4 = some r → avc Try.prog acsL7Exprs_L0 (qsL7Exprs_1 r) (stsL7Exprs_L0 p0 x3 x4)) := by
 refine sL7Exprs_J1.mutual_partial_correctness p0 (fun x4 x3_4 r => avc Try.prog acsL7Exprs_J1 (qsL7Exprs_2 r) (stsL7Exprs_J1 x4 p0 x3_4)) (fun x3 x4 r => avc Try.prog acsL7Exprs_L0 (qsL7Exprs_1 r) (stsL7Exprs_L0 p0 x3 x4)) ?_ ?_
 · intro F_sL7Exprs_L0 OK_sL7Exprs_L0 x4 x3_4 r h
   delta acsL7Exprs_J1
   refine oi ?_
   let a11 : St := (stsL7Exprs_J1 x4 p0 x3_4).p [(4, (vI (IntKind.wrap .i64 (x4 + 1)))), (14, (vI (IntKind.wrap .i64 (x4 + 1)))), (13, (vI x4))]
   exact st 3 a11 (ni (loop_back (s' := stsL7Exprs_L0 p0 x3_4 (IntKind.wrap .i64 (x4 + 1))) (wr [(3, .old 3)] (es (eo 3 (es er_nil))) (bs_ br_nil)) (OK_sL7Exprs_L0 x3_4 (IntKind.wrap .i64 (x4 + 1)) _ h)))
 · intro F_sL7Exprs_J1 OK_sL7Exprs_J1 x3 x4 r h
   delta acsL7Exprs_L0
   refine loop_unroll (si (so ?_))
   let a3 : St := (stsL7Exprs_L0 p0 x3 x4).p [(10, (.d (.sl 13 (p0.items.map cGItem)))), (9, (.ptr 1 1)), (8, (vI x4))]
   refine st 3 a3 (ps (vI (p0.items.length : Int)) (vop_len (sz := 13) (l := p0.items) (f := cGItem) (by kernel_rfl) (by kernel_rfl)) ?_)
   let a4 : St := a3.p [(12, (vB (decide (x4 < (p0.items.length : Int))))), (11, (vI (p0.items.length : Int)))]
   refine st 1 a4 (nx ?_)
   refine cd h (fun h => ?_) fun h => ?_
   refine ki (xi (si (bi (so ?_))))
   let a5 : St := a4.p [(17, (vI x4)), (16, (.d (.sl 13 (p0.items.map cGItem)))), (15, (.ptr 1 1))]
   refine st 3 a5 (vs (fun (y : GItem) => (.rp (oGItem y))) h (fun y hy => vop_ia (l := p0.items) (f := cGItem) (g := oGItem) (k := .i64) hy cGItem_eq (by kernel_rfl) (by kernel_rfl) (by kernel_rfl)) fun y1 h => ?_)
   let a6 : St := a5.p [(21, (vB (!y1.star))), (20, (vB y1.star)), (19, (.rp [(.b y1.star), (.s (bs y1.qual)), (.i .i64 y1.expr.kind), (.i .i64 y1.expr.op), (.b y1.expr.not_), (.i .i64 y1.expr.value.kind), (.i .i64 y1.expr.value.num), (.s (bs y1.expr.value.text)), (.s (bs y1.expr.qual)), (.s (bs y1.expr.name)), (.sl 10 (y1.expr.kids.map cGExpr)), (.sl 6 (y1.expr.sub.map cGQuery)), (.s (bs y1.as_))])), (18, (.rp (oGItem y1)))]
   refine st 3 a6 (nx ?_)
   refine cd h (fun h => ?_) fun h => ?_
   refine oi ?_
   let a7 : St := a6.p [(25, (vI x4)), (24, (.d (.sl 13 (p0.items.map cGItem)))), (23, (.ptr 1 1)), (22, (.osl 3 49 10 (x3.map cGExpr)))]
   refine st 4 a7 (vs (fun (y : GItem) => (.rp (oGItem y))) h (fun y hy => vop_ia (l := p0.items) (f := cGItem) (g := oGItem) (k := .i64) hy cGItem_eq (by kernel_rfl) (by kernel_rfl) (by kernel_rfl)) fun y2 h => ?_)
   let a8 : St := a7.p [(28, (vGExpr y2.expr)), (27, (.rp [(.i .i64 y2.expr.kind), (.i .i64 y2.expr.op), (.b y2.expr.not_), (.i .i64 y2.expr.value.kind), (.i .i64 y2.expr.value.num), (.s (bs y2.expr.value.text)), (.s (bs y2.expr.qual)), (.s (bs y2.expr.name)), (.sl 10 (y2.expr.kids.map cGExpr)), (.sl 6 (y2.expr.sub.map cGQuery)), (.s (bs y2.as_))])), (26, (.rp (oGItem y2)))]
   refine st 2 a8 (bsl_step (l := ([y2.expr] : List GExpr)) (f := cGExpr) (g := oGExpr) (by kernel_rfl) cGExpr_eq (by kernel_rfl) ?_)
   refine app_step (t := 3) (l := x3) (m := ([y2.expr] : List GExpr)) (f := cGExpr) (S' := fun y => ⟨[(30, (.osl 30 49 10 (y.map cGExpr))), (29, (.osl 29 49 10 (([y2.expr] : List GExpr).map cGExpr))), (28, (vGExpr y2.expr)), (27, (.rp [(.i .i64 y2.expr.kind), (.i .i64 y2.expr.op), (.b y2.expr.not_), (.i .i64 y2.expr.value.kind), (.i .i64 y2.expr.value.num), (.s (bs y2.expr.value.text)), (.s (bs y2.expr.qual)), (.s (bs y2.expr.name)), (.sl 10 (y2.expr.kids.map cGExpr)), (.sl 6 (y2.expr.sub.map cGQuery)), (.s (bs y2.as_))])), (26, (.rp (oGItem y2))), (25, (vI x4)), (24, (.d (.sl 13 (p0.items.map cGItem)))), (23, (.ptr 1 1)), (22, (.d (.sl 10 (x3.map cGExpr)))), (21, (vB (!y1.star))), (20, (vB y1.star)), (19, (.rp [(.b y1.star), (.s (bs y1.qual)), (.i .i64 y1.expr.kind), (.i .i64 y1.expr.op), (.b y1.expr.not_), (.i .i64 y1.expr.value.kind), (.i .i64 y1.expr.value.num), (.s (bs y1.expr.value.text)), (.s (bs y1.expr.qual)), (.s (bs y1.expr.name)), (.sl 10 (y1.expr.kids.map cGExpr)), (.sl 6 (y1.expr.sub.map cGQuery)), (.s (bs y1.as_))])), (18, (.rp (oGItem y1))), (17, (vI x4)), (16, (.d (.sl 13 (p0.items.map cGItem)))), (15, (.ptr 1 1)), (12, (vB (decide (x4 < (p0.items.length : Int))))), (11, (vI (p0.items.length : Int))), (10, (.d (.sl 13 (p0.items.map cGItem)))), (9, (.ptr 1 1)), (8, (vI x4)), (1, (.ptr 1 0)), (3, (.d (.sl 10 (x3.map cGExpr)))), (4, (vI x4))], [(1, bGQuery p0)]⟩) h (by kernel_rfl) (by kernel_rfl) (by kernel_rfl) (by kernel_rfl) (fun y => by kernel_rfl) ?_
   clear h; intro y3 h
   let a9 : St := ⟨[(3, (.osl 3 49 10 (y3.map cGExpr))), (30, (.d (.sl 10 (y3.map cGExpr)))), (29, (.osl 29 49 10 (([y2.expr] : List GExpr).map cGExpr))), (28, (vGExpr y2.expr)), (27, (.rp [(.i .i64 y2.expr.kind), (.i .i64 y2.expr.op), (.b y2.expr.not_), (.i .i64 y2.expr.value.kind), (.i .i64 y2.expr.value.num), (.s (bs y2.expr.value.text)), (.s (bs y2.expr.qual)), (.s (bs y2.expr.name)), (.sl 10 (y2.expr.kids.map cGExpr)), (.sl 6 (y2.expr.sub.map cGQuery)), (.s (bs y2.as_))])), (26, (.rp (oGItem y2))), (25, (vI x4)), (24, (.d (.sl 13 (p0.items.map cGItem)))), (23, (.ptr 1 1)), (22, (.d (.sl 10 (x3.map cGExpr)))), (21, (vB (!y1.star))), (20, (vB y1.star)), (19, (.rp [(.b y1.star), (.s (bs y1.qual)), (.i .i64 y1.expr.kind), (.i .i64 y1.expr.op), (.b y1.expr.not_), (.i .i64 y1.expr.value.kind), (.i .i64 y1.expr.value.num), (.s (bs y1.expr.value.text)), (.s (bs y1.expr.qual)), (.s (bs y1.expr.name)), (.sl 10 (y1.expr.kids.map cGExpr)), (.sl 6 (y1.expr.sub.map cGQuery)), (.s (bs y1.as_))])), (18, (.rp (oGItem y1))), (17, (vI x4)), (16, (.d (.sl 13 (p0.items.map cGItem)))), (15, (.ptr 1 1)), (12, (vB (decide (x4 < (p0.items.length : Int))))), (11, (vI (p0.items.length : Int))), (10, (.d (.sl 13 (p0.items.map cGItem)))), (9, (.ptr 1 1)), (8, (vI x4)), (1, (.ptr 1 0)), (3, (.d (.sl 10 (x3.map cGExpr)))), (4, (vI x4))], [(1, bGQuery p0)]⟩
   exact st 1 a9 (ni (bn (next_step (s' := stsL7Exprs_J1 x4 p0 y3) (wr [(3, .old 3)] (es (eo 3 (es er_nil))) (bs_ br_nil)) (OK_sL7Exprs_J1 x4 y3 _ h))))
   exact ki (bn (next_step (s' := stsL7Exprs_J1 x4 p0 x3) (wr [(3, .old 3)] (es (eo 3 (es er_nil))) (bs_ br_nil)) (OK_sL7Exprs_J1 x4 x3 _ h)))
   refine ei (te (te (bh (xi (si (so ?_))))))
   let a10 : St := a4.p [(5, (vI 0))]
   exact st 1 a10 (nx (bi (loop_go (s' := stsL7Exprs_L2 p0 x3 0) (wr [(3, .old 3)] (es (eo 3 (es er_nil))) (bs_ br_nil)) (OK_sL7Exprs_L2 p0 x3 0 _ h))))
theorem OK_sL7Exprs_J1 (x4 : Int) (p0 : GQuery) (x3_4 : (List GExpr)) (r : (List GExpr)) (h : sL7Exprs_J1 x4 p0 x3_4 = some r) : avc Try.prog acsL7Exprs_J1 (qsL7Exprs_2 r) (stsL7Exprs_J1 x4 p0 x3_4) := (OKs_sL7Exprs_J1 p0).1 x4 x3_4 r h
theorem OK_sL7Exprs_L0 (p0 : GQuery) (x3 : (List GExpr)) (x4 : Int) (r : (List GExpr)) (h : sL7Exprs_L0 p0 x3 x4 = some r) : avc Try.prog acsL7Exprs_L0 (qsL7Exprs_1 r) (stsL7Exprs_L0 p0 x3 x4) := (OKs_sL7Exprs_J1 p0).2 x3 x4 r h
theorem OK_sL7Exprs (p0 : GQuery) : FOkB Try.prog 58 [(vGQuery p0)] [] (fun (y : (List GExpr)) => (.osl 2000000 49 10 (y.map cGExpr))) (fun (y : (List GExpr)) => []) (sL7Exprs p0) := by
 intro r h
 rw [sL7Exprs] at h
 refine acalls_of_fn trsL7Exprs (Nat.le_of_ble_eq_true rfl) (by simp) ?_
 show avc Try.prog acsL7Exprs (qsL7Exprs _) ⟨[(0, (vGQuery p0))], []⟩
 delta acsL7Exprs
 refine so ?_
 let a0 : St := ⟨[(2, (.nil 10)), (1, (.ptr 1 0)), (0, (vGQuery p0))], [(1, bGQuery p0)]⟩
 refine st 2 a0 (nx (so (bsl_step (l := ([] : List GExpr)) (f := cGExpr) (g := oGExpr) (by kernel_rfl) cGExpr_eq (by kernel_rfl) ?_)))
 let a1 : St := a0.p [(3, (.osl 3 49 10 (([] : List GExpr).map cGExpr))), (7, (.d (.sl 10 (([] : List GExpr).map cGExpr))))]
 refine st 1 a1 (nx (si (so ?_)))
 let a2 : St := a1.p [(4, (vI 0))]
 exact st 1 a2 (nx (bi (loop_go (s' := stsL7Exprs_L0 p0 ([] : List GExpr) 0) (wr [(3, .old 3)] (es (eo 3 (es er_nil))) (bs_ br_nil)) (OK_sL7Exprs_L0 p0 ([] : List GExpr) 0 _ h))))
theorem OK_sValueOk (p0 : GValue) : FOk Try.prog 211 [(vGValue p0)] (fun y => (vB y)) (sValueOk p0) := by
 intro r h
 rw [sValueOk] at h
 refine acalls_of_fn trsValueOk (Nat.le_of_ble_eq_true rfl) (by simp) ?_
 show avc Try.prog acsValueOk (qsValueOk _) ⟨[(0, (vGValue p0))], []⟩
 delta acsValueOk
 refine so ?_
 let a0 : St := ⟨[(2, (vB false)), (1, (.ptr 1 0)), (0, (vGValue p0))], [(1, bGValue p0)]⟩
 refine st 2 a0 (nx (si (so ?_)))
 let a1 : St := a0.p [(4, (vI p0.kind)), (3, (.ptr 1 0))]
 refine st 2 a1 (nx (bi (so ?_)))
 let a2 : St := a1.p [(5, (vB (decide (p0.kind = 0)))), (6, (vB (decide (p0.kind = 0))))]
 refine st 2 a2 (nx ?_)
 refine cd h (fun h => ?_) fun h => ?_
 refine so ?_
 let a3 : St := a2.p [(10, (vB (decide (p0.num = 0)))), (9, (vB (decide (p0.num = 0)))), (8, (vI p0.num)), (7, (.ptr 1 1))]
 refine st 4 a3 (gp true (decide (p0.num = 0)) (.ptr 1 2) (fun hc => vl) (gp true (decide (p0.num = 0)) (vS p0.text) (fun hc => vg hc) (gp true (decide (p0.num = 0)) (vB (decide (p0.text = []))) (fun hc => vg hc) ?_)))
 refine vs (fun (y : Bool) => (vB y)) h (fun y hy => vop_pickV hy (p := (true && ((decide (p0.num = 0)) == true))) (q := true) (by kernel_rfl) (by kernel_rfl) (by kernel_rfl) (by kernel_rfl) (fun hb => gc_t rfl hb) (fun _ => rfl)) fun y1 h => ?_
 let a4 : St := a3.p [(2, (vB y1)), (14, (vB y1)), (13, (.ite (true && ((decide (p0.num = 0)) == true)) (vB (decide (p0.text = []))))), (12, (.ite (true && ((decide (p0.num = 0)) == true)) (vS p0.text))), (11, (.ite (true && ((decide (p0.num = 0)) == true)) (.ptr 1 2)))]
 refine st 1 a4 (nx (ri (br (tr ?_))))
 injection h with h; subst h
 exact ret1_step (v := (vB y1)) (by kernel_rfl) (by kernel_rfl) (by kernel_rfl)
 refine so ?_
 let a5 : St := a2.p [(15, (vB (decide (p0.kind = 1)))), (16, (vB (decide (p0.kind = 1))))]
 refine st 2 a5 (nx ?_)
 refine cd h (fun h => ?_) fun h => ?_
 refine so ?_
 let a6 : St := a5.p [(2, (vB (decide (p0.text = [])))), (19, (vB (decide (p0.text = [])))), (18, (vS p0.text)), (17, (.ptr 1 2))]
 refine st 4 a6 (nx (ri (br (tr ?_))))
 injection h with h; subst h
 exact ret1_step (v := (vB (decide (p0.text = [])))) (by kernel_rfl) (by kernel_rfl) (by kernel_rfl)
 refine so ?_
 let a7 : St := a5.p [(20, (vB (decide (p0.kind = 2)))), (21, (vB (decide (p0.kind = 2))))]
 refine st 2 a7 (nx ?_)
 refine cd h (fun h => ?_) fun h => ?_
 refine so ?_
 let a8 : St := a7.p [(25, (vB (decide (p0.num = 0)))), (24, (vB (decide (p0.num = 0)))), (23, (vI p0.num)), (22, (.ptr 1 1))]
 refine st 4 a8 (gp true (decide (p0.num = 0)) (.ptr 1 2) (fun hc => vl) (gp true (decide (p0.num = 0)) (vS p0.text) (fun hc => vg hc) (gp true (decide (p0.num = 0)) (vI (p0.text.length : Int)) (fun hc => vg hc) (gp true (decide (p0.num = 0)) (vB (decide ((p0.text.length : Int) ≤ 200))) (fun hc => vg hc) ?_))))
 refine vs (fun (y : Bool) => (vB y)) h (fun y hy => vop_pickV hy (p := (true && ((decide (p0.num = 0)) == true))) (q := true) (by kernel_rfl) (by kernel_rfl) (by kernel_rfl) (by kernel_rfl) (fun hb => gc_t rfl hb) (fun _ => rfl)) fun y2 h => ?_
 let a9 : St := a8.p [(2, (vB y2)), (30, (vB y2)), (29, (.ite (true && ((decide (p0.num = 0)) == true)) (vB (decide ((p0.text.length : Int) ≤ 200))))), (28, (.ite (true && ((decide (p0.num = 0)) == true)) (vI (p0.text.length : Int)))), (27, (.ite (true && ((decide (p0.num = 0)) == true)) (vS p0.text))), (26, (.ite (true && ((decide (p0.num = 0)) == true)) (.ptr 1 2)))]
 refine st 1 a9 (nx (ri (br (tr ?_))))
 injection h with h; subst h
 exact ret1_step (v := (vB y2)) (by kernel_rfl) (by kernel_rfl) (by kernel_rfl)
 refine so ?_
 let a10 : St := a7.p [(31, (vB (decide (p0.kind = 3)))), (32, (vB (decide (p0.kind = 3))))]
 refine st 2 a10 (nx ?_)
 refine cd h (fun h => ?_) fun h => ?_
 refine so ?_
 let a11 : St := a10.p [(34, (vI p0.num)), (33, (.ptr 1 1))]
 refine st 2 a11 (cs h (OK_sL1In p0.num 0 1) fun y3 h => ?_)
 let a12 : St := a11.p [(36, (vB y3)), (35, (vB y3))]
 refine st 1 a12 (gp true y3 (.ptr 1 2) (fun hc => vl) (gp true y3 (vS p0.text) (fun hc => vg hc) (gp true y3 (vB (decide (p0.text = []))) (fun hc => vg hc) (vs (fun (y : Bool) => (vB y)) h (fun y hy => vop_pickV hy (p := (true && (y3 == true))) (q := true) (by kernel_rfl) (by kernel_rfl) (by kernel_rfl) (by kernel_rfl) (fun hb => gc_t rfl hb) (fun _ => rfl)) fun y4 h => ?_))))
 let a13 : St := a12.p [(2, (vB y4)), (40, (vB y4)), (39, (.ite (gT y3) (vB (decide (p0.text = []))))), (38, (.ite (gT y3) (vS p0.text))), (37, (.ite (gT y3) (.ptr 1 2)))]
 refine st 1 a13 (nx (ri (br (tr ?_))))
 injection h with h; subst h
 exact ret1_step (v := (vB y4)) (by kernel_rfl) (by kernel_rfl) (by kernel_rfl)
 refine ki (bn (xi (so ?_)))
 let a14 : St := a10.p [(2, (vB false))]
 refine st 1 a14 (nx (ri ?_))
 injection h with h; subst h
 exact ret1_step (v := (vB false)) (by kernel_rfl) (by kernel_rfl) (by kernel_rfl)
theorem OK_sL7Lit (p0 : GValue) : FOk Try.prog 188 [(vGValue p0)] (fun y => (vB y)) (sL7Lit p0) := by
 intro r h
 rw [sL7Lit] at h
 refine acalls_of_fn trsL7Lit (Nat.le_of_ble_eq_true rfl) (by simp) ?_
 show avc Try.prog acsL7Lit (qsL7Lit _) ⟨[(0, (vGValue p0))], []⟩
 delta acsL7Lit
 refine so ?_
 let a0 : St := ⟨[(2, (vB false)), (1, (.ptr 1 0)), (0, (vGValue p0))], [(1, bGValue p0)]⟩
 refine st 2 a0 (nx (so ?_))
 let a1 : St := a0.p [(3, (vGValue p0))]
 refine st 1 a1 (cs h (OK_sValueOk p0) fun y1 h => ?_)
 let a2 : St := a1.p [(5, (vB y1)), (4, (vB y1))]
 refine st 1 a2 (gp true y1 (.ptr 1 0) (fun hc => vl) (gp true y1 (vI p0.kind) (fun hc => vg hc) (gp true y1 (vB (!decide (p0.kind = 1))) (fun hc => vg hc) (gp true y1 (vB (!decide (p0.kind = 1))) (fun hc => vg hc) (gp (true && (y1 == true)) (!decide (p0.kind = 1)) (.ptr 1 1) (fun hc => vl) (gp (true && (y1 == true)) (!decide (p0.kind = 1)) (vI p0.num) (fun hc => vg hc) ?_))))))
 refine gp (true && (y1 == true)) (!decide (p0.kind = 1)) (vB (decide (0 ≤ p0.num))) (fun hc => vg hc) ?_
 refine gv true y1 (fun (y : Bool) => (vB y)) h (fun y hy hc => vop_pickV hy (p := true) (q := ((true && (y1 == true)) && ((!decide (p0.kind = 1)) == false))) (Eq.trans (b := ([(true && (y1 == true))] : List Bool).all id) (by kernel_rfl) (all_c hc rfl)) (by kernel_rfl) (by kernel_rfl) (by kernel_rfl) (fun _ => rfl) (fun hb => gc_f hc hb)) fun y2 h => ?_
 refine vs (fun (y : Bool) => (vB y)) h (fun y hy => vop_pickV hy (p := (true && (y1 == true))) (q := true) (by kernel_rfl) (by kernel_rfl) (by kernel_rfl) (by kernel_rfl) (fun hb => gc_t rfl hb) (fun _ => rfl)) fun y3 h => ?_
 let a3 : St := a2.p [(15, (vB y3)), (14, (vB y3)), (13, (.ite (gT y1) (vB y2))), (12, (.ite ((gT y1) && ((!decide (p0.kind = 1)) == false)) (vB (decide (0 ≤ p0.num))))), (11, (.ite ((gT y1) && ((!decide (p0.kind = 1)) == false)) (vI p0.num))), (10, (.ite ((gT y1) && ((!decide (p0.kind = 1)) == false)) (.ptr 1 1))), (9, (.ite (gT y1) (vB (!decide (p0.kind = 1))))), (8, (.ite (gT y1) (vB (!decide (p0.kind = 1))))), (7, (.ite (gT y1) (vI p0.kind))), (6, (.ite (gT y1) (.ptr 1 0)))]
 refine st 1 a3 (gp true y3 (.ptr 1 2) (fun hc => vl) (gp true y3 (vS p0.text) (fun hc => vg hc) (gp true y3 (vI (p0.text.length : Int)) (fun hc => vg hc) (gp true y3 (vB (decide ((p0.text.length : Int) ≤ 40))) (fun hc => vg hc) ?_))))
 refine vs (fun (y : Bool) => (vB y)) h (fun y hy => vop_pickV hy (p := (true && (y3 == true))) (q := true) (by kernel_rfl) (by kernel_rfl) (by kernel_rfl) (by kernel_rfl) (fun hb => gc_t rfl hb) (fun _ => rfl)) fun y4 h => ?_
 let a4 : St := a3.p [(2, (vB y4)), (20, (vB y4)), (19, (.ite (gT y3) (vB (decide ((p0.text.length : Int) ≤ 40))))), (18, (.ite (gT y3) (vI (p0.text.length : Int)))), (17, (.ite (gT y3) (vS p0.text))), (16, (.ite (gT y3) (.ptr 1 2)))]
 refine st 1 a4 (nx (ri ?_))
 injection h with h; subst h
 exact ret1_step (v := (vB y4)) (by kernel_rfl) (by kernel_rfl) (by kernel_rfl)
theorem OK_sL7Shape (p0 : GExpr) : FOk Try.prog 142 [(vGExpr p0)] (fun y => (vB y)) (sL7Shape p0) := by
 intro r h
 rw [sL7Shape] at h
 refine acalls_of_fn trsL7Shape (Nat.le_of_ble_eq_true rfl) (by simp) ?_
 show avc Try.prog acsL7Shape (qsL7Shape _) ⟨[(0, (vGExpr p0))], []⟩
 delta acsL7Shape
 refine so ?_
 let a0 : St := ⟨[(2, (vB false)), (1, (.ptr 1 0)), (0, (vGExpr p0))], [(1, bGExpr p0)]⟩
 refine st 2 a0 (nx (so ?_))
 let a1 : St := a0.p [(6, (.d (.sl 10 (p0.kids.map cGExpr)))), (5, (.ptr 1 8))]
 refine st 2 a1 (ps (vI (p0.kids.length : Int)) (vop_len (sz := 10) (l := p0.kids) (f := cGExpr) (by kernel_rfl) (by kernel_rfl)) ?_)
 let a2 : St := a1.p [(3, (vI (p0.kids.length : Int))), (7, (vI (p0.kids.length : Int)))]
 refine st 1 a2 (nx (so ?_))
 let a3 : St := a2.p [(9, (.d (.sl 6 (p0.sub.map cGQuery)))), (8, (.ptr 1 9))]
 refine st 2 a3 (ps (vI (p0.sub.length : Int)) (vop_len (sz := 6) (l := p0.sub) (f := cGQuery) (by kernel_rfl) (by kernel_rfl)) ?_)
 let a4 : St := a3.p [(4, (vI (p0.sub.length : Int))), (10, (vI (p0.sub.length : Int)))]
 refine st 1 a4 (nx (si (so ?_)))
 let a5 : St := a4.p [(14, (vB (!decide (p0.kind = 2)))), (13, (vB (!decide (p0.kind = 2)))), (12, (vI p0.kind)), (11, (.ptr 1 0))]
 refine st 4 a5 (gp true (!decide (p0.kind = 2)) (.ptr 1 6) (fun hc => vl) (gp true (!decide (p0.kind = 2)) (vS p0.qual) (fun hc => vg hc) (gp true (!decide (p0.kind = 2)) (vB (!decide (p0.qual = []))) (fun hc => vg hc) (gp true (!decide (p0.kind = 2)) (vB (!decide (p0.qual = []))) (fun hc => vg hc) (gp (true && ((!decide (p0.kind = 2)) == true)) (!decide (p0.qual = [])) (.ptr 1 7) (fun hc => vl) ?_)))))
 refine gp (true && ((!decide (p0.kind = 2)) == true)) (!decide (p0.qual = [])) (vS p0.name) (fun hc => vop_val1 (Eq.trans (b := ([((true && ((!decide (p0.kind = 2)) == true)) && ((!decide (p0.qual = [])) == false))] : List Bool).all id) (by kernel_rfl) (all_c hc rfl)) (by kernel_rfl)) ?_
 refine gp (true && ((!decide (p0.kind = 2)) == true)) (!decide (p0.qual = [])) (vB (!decide (p0.name = []))) (fun hc => vop_val1 (Eq.trans (b := ([((true && ((!decide (p0.kind = 2)) == true)) && ((!decide (p0.qual = [])) == false))] : List Bool).all id) (by kernel_rfl) (all_c hc rfl)) (by kernel_rfl)) ?_
 refine gv true (!decide (p0.kind = 2)) (fun (y : Bool) => (vB y)) h (fun y hy hc => vop_pickV hy (p := true) (q := ((true && ((!decide (p0.kind = 2)) == true)) && ((!decide (p0.qual = [])) == false))) (Eq.trans (b := ([(true && ((!decide (p0.kind = 2)) == true))] : List Bool).all id) (by kernel_rfl) (all_c hc rfl)) (by kernel_rfl) (by kernel_rfl) (by kernel_rfl) (fun _ => rfl) (fun hb => gc_f hc hb)) fun y1 h => ?_
 refine vs (fun (y : Bool) => (vB y)) h (fun y hy => vop_pickV hy (p := (true && ((!decide (p0.kind = 2)) == true))) (q := true) (by kernel_rfl) (by kernel_rfl) (by kernel_rfl) (by kernel_rfl) (fun hb => gc_t rfl hb) (fun _ => rfl)) fun y2 h => ?_
 let a6 : St := a5.p [(24, (vB y2)), (23, (vB y2)), (22, (.ite (true && ((!decide (p0.kind = 2)) == true)) (vB y1))), (21, (.ite ((true && ((!decide (p0.kind = 2)) == true)) && ((!decide (p0.qual = [])) == false)) (vB (!decide (p0.name = []))))), (20, (.ite ((true && ((!decide (p0.kind = 2)) == true)) && ((!decide (p0.qual = [])) == false)) (vS p0.name))), (19, (.ite ((true && ((!decide (p0.kind = 2)) == true)) && ((!decide (p0.qual = [])) == false)) (.ptr 1 7))), (18, (.ite (true && ((!decide (p0.kind = 2)) == true)) (vB (!decide (p0.qual = []))))), (17, (.ite (true && ((!decide (p0.kind = 2)) == true)) (vB (!decide (p0.qual = []))))), (16, (.ite (true && ((!decide (p0.kind = 2)) == true)) (vS p0.qual))), (15, (.ite (true && ((!decide (p0.kind = 2)) == true)) (.ptr 1 6)))]
 refine st 1 a6 (gp true y2 (.ptr 1 0) (fun hc => vl) (gp true y2 (vI p0.kind) (fun hc => vg hc) (gp true y2 (vB (!decide (p0.kind = 1))) (fun hc => vg hc) (gp true y2 (vB (!decide (p0.kind = 1))) (fun hc => vg hc) (gp (true && (y2 == false)) (!decide (p0.kind = 1)) (.ptr 1 3) (fun hc => vl) (gp (true && (y2 == false)) (!decide (p0.kind = 1)) (vGValue p0.value) (fun hc => vg hc) ?_))))))
 refine gp (true && (y2 == false)) (!decide (p0.kind = 1)) (vGValue (GValue.mk 0 0 [])) (fun hc => vl) ?_
 refine gp (true && (y2 == false)) (!decide (p0.kind = 1)) (vB (!((decide (p0.value.kind = 0)) && ((decide (p0.value.num = 0)) && ((decide (p0.value.text = [])) && true))))) (fun hc => vop_val1 (Eq.trans (b := ([((true && (y2 == false)) && ((!decide (p0.kind = 1)) == true)), ((true && (y2 == false)) && ((!decide (p0.kind = 1)) == true))] : List Bool).all id) (by kernel_rfl) (all_c hc (all_c hc rfl))) (by kernel_rfl)) ?_
 refine gv true y2 (fun (y : Bool) => (vB y)) h (fun y hy hc => vop_pickV hy (p := ((true && (y2 == false)) && ((!decide (p0.kind = 1)) == true))) (q := true) (Eq.trans (b := ([(true && (y2 == false))] : List Bool).all id) (by kernel_rfl) (all_c hc rfl)) (by kernel_rfl) (by kernel_rfl) (by kernel_rfl) (fun hb => gc_t hc hb) (fun _ => rfl)) fun y3 h => ?_
 refine vs (fun (y : Bool) => (vB y)) h (fun y hy => vop_pickV hy (p := true) (q := (true && (y2 == false))) (by kernel_rfl) (by kernel_rfl) (by kernel_rfl) (by kernel_rfl) (fun _ => rfl) (fun hb => gc_f rfl hb)) fun y4 h => (nx ?_)
 refine cd h (fun h => ?_) fun h => ?_
 refine so ?_
 let a7 : St := a6.p [(2, (vB false)), (34, (vB y4)), (33, (.ite (gF y2) (vB y3))), (32, (.ite ((gF y2) && ((!decide (p0.kind = 1)) == true)) (vB (!((decide (p0.value.kind = 0)) && ((decide (p0.value.num = 0)) && ((decide (p0.value.text = [])) && true))))))), (31, (.ite ((gF y2) && ((!decide (p0.kind = 1)) == true)) (vGValue (GValue.mk 0 0 [])))), (30, (.ite ((gF y2) && ((!decide (p0.kind = 1)) == true)) (vGValue p0.value))), (29, (.ite ((gF y2) && ((!decide (p0.kind = 1)) == true)) (.ptr 1 3))), (28, (.ite (gF y2) (vB (!decide (p0.kind = 1))))), (27, (.ite (gF y2) (vB (!decide (p0.kind = 1))))), (26, (.ite (gF y2) (vI p0.kind))), (25, (.ite (gF y2) (.ptr 1 0)))]
 refine st 1 a7 (nx (ri (tr ?_)))
 injection h with h; subst h
 exact ret1_step (v := (vB false)) (by kernel_rfl) (by kernel_rfl) (by kernel_rfl)
 refine ki (xi (si (so ?_)))
 let a8 : St := a6.p [(38, (vB (!decide (p0.kind = 3)))), (37, (vB (!decide (p0.kind = 3)))), (36, (vI p0.kind)), (35, (.ptr 1 0)), (34, (vB y4)), (33, (.ite (gF y2) (vB y3))), (32, (.ite ((gF y2) && ((!decide (p0.kind = 1)) == true)) (vB (!((decide (p0.value.kind = 0)) && ((decide (p0.value.num = 0)) && ((decide (p0.value.text = [])) && true))))))), (31, (.ite ((gF y2) && ((!decide (p0.kind = 1)) == true)) (vGValue (GValue.mk 0 0 [])))), (30, (.ite ((gF y2) && ((!decide (p0.kind = 1)) == true)) (vGValue p0.value))), (29, (.ite ((gF y2) && ((!decide (p0.kind = 1)) == true)) (.ptr 1 3))), (28, (.ite (gF y2) (vB (!decide (p0.kind = 1))))), (27, (.ite (gF y2) (vB (!decide (p0.kind = 1))))), (26, (.ite (gF y2) (vI p0.kind))), (25, (.ite (gF y2) (.ptr 1 0)))]
 refine st 4 a8 (gp true (!decide (p0.kind = 3)) (.ptr 1 0) (fun hc => vl) (gp true (!decide (p0.kind = 3)) (vI p0.kind) (fun hc => vg hc) (gp true (!decide (p0.kind = 3)) (vB (!decide (p0.kind = 4))) (fun hc => vg hc) ?_)))
 refine vs (fun (y : Bool) => (vB y)) h (fun y hy => vop_pickV hy (p := (true && ((!decide (p0.kind = 3)) == true))) (q := true) (by kernel_rfl) (by kernel_rfl) (by kernel_rfl) (by kernel_rfl) (fun hb => gc_t rfl hb) (fun _ => rfl)) fun y5 h => ?_
 let a9 : St := a8.p [(43, (vB y5)), (42, (vB y5)), (41, (.ite (true && ((!decide (p0.kind = 3)) == true)) (vB (!decide (p0.kind = 4))))), (40, (.ite (true && ((!decide (p0.kind = 3)) == true)) (vI p0.kind))), (39, (.ite (true && ((!decide (p0.kind = 3)) == true)) (.ptr 1 0)))]
 refine st 1 a9 (gp true y5 (.ptr 1 1) (fun hc => vl) (gp true y5 (vI p0.op) (fun hc => vg hc) (gp true y5 (vB (!decide (p0.op = 0))) (fun hc => vg hc) (vs (fun (y : Bool) => (vB y)) h (fun y hy => vop_pickV hy (p := (true && (y5 == true))) (q := true) (by kernel_rfl) (by kernel_rfl) (by kernel_rfl) (by kernel_rfl) (fun hb => gc_t rfl hb) (fun _ => rfl)) fun y6 h => ?_))))
 let a10 : St := a9.p [(48, (vB y6)), (47, (vB y6)), (46, (.ite (gT y5) (vB (!decide (p0.op = 0))))), (45, (.ite (gT y5) (vI p0.op))), (44, (.ite (gT y5) (.ptr 1 1)))]
 refine st 1 a10 (gp true y6 (.ptr 1 2) (fun hc => vl) (gp true y6 (vB p0.not_) (fun hc => vg hc) (gp true y6 (vB p0.not_) (fun hc => vg hc) (gp (true && (y6 == false)) p0.not_ (.ptr 1 0) (fun hc => vl) (gp (true && (y6 == false)) p0.not_ (vI p0.kind) (fun hc => vg hc) ?_)))))
 refine gcall_step (p := (true && (y6 == false))) (b := p0.not_) (m := sL1In p0.kind 5 8) (dflt := default) (args := [(vI p0.kind), (vI 5), (vI 8)]) (v' := (fun y => (vB y))) h (by kernel_rfl) (OK_sL1In p0.kind 5 8) (fun hc => by kernel_rfl) (by kernel_rfl) (fun _ => rfl) (fun hc => (Eq.trans (b := ([((true && (y6 == false)) && (p0.not_ == true))] : List Bool).all id) (by kernel_rfl) (all_c hc rfl))) ?_
 clear h; intro y7 h
 refine gp (true && (y6 == false)) p0.not_ (vB (!y7)) (fun hc => vg hc) (gv true y6 (fun (y : Bool) => (vB y)) h (fun y hy hc => vop_pickV hy (p := ((true && (y6 == false)) && (p0.not_ == true))) (q := true) (Eq.trans (b := ([(true && (y6 == false))] : List Bool).all id) (by kernel_rfl) (all_c hc rfl)) (by kernel_rfl) (by kernel_rfl) (by kernel_rfl) (fun hb => gc_t hc hb) (fun _ => rfl)) fun y8 h => ?_)
 refine vs (fun (y : Bool) => (vB y)) h (fun y hy => vop_pickV hy (p := true) (q := (true && (y6 == false))) (by kernel_rfl) (by kernel_rfl) (by kernel_rfl) (by kernel_rfl) (fun _ => rfl) (fun hb => gc_f rfl hb)) fun y9 h => (nx ?_)
 refine cd h (fun h => ?_) fun h => ?_
 refine so ?_
 let a11 : St := a10.p [(2, (vB false)), (57, (vB y9)), (56, (.ite (gF y6) (vB y8))), (55, (.ite ((gF y6) && (p0.not_ == true)) (vB (!y7)))), (54, (.ite ((gF y6) && (p0.not_ == true)) (vB y7))), (53, (.ite ((gF y6) && (p0.not_ == true)) (vI p0.kind))), (52, (.ite ((gF y6) && (p0.not_ == true)) (.ptr 1 0))), (51, (.ite (gF y6) (vB p0.not_))), (50, (.ite (gF y6) (vB p0.not_))), (49, (.ite (gF y6) (.ptr 1 2)))]
 refine st 1 a11 (nx (ri (tr ?_)))
 injection h with h; subst h
 exact ret1_step (v := (vB false)) (by kernel_rfl) (by kernel_rfl) (by kernel_rfl)
 refine ki (xi (si (so ?_)))
 let a12 : St := a10.p [(59, (vI p0.kind)), (58, (.ptr 1 0)), (57, (vB y9)), (56, (.ite (gF y6) (vB y8))), (55, (.ite ((gF y6) && (p0.not_ == true)) (vB (!y7)))), (54, (.ite ((gF y6) && (p0.not_ == true)) (vB y7))), (53, (.ite ((gF y6) && (p0.not_ == true)) (vI p0.kind))), (52, (.ite ((gF y6) && (p0.not_ == true)) (.ptr 1 0))), (51, (.ite (gF y6) (vB p0.not_))), (50, (.ite (gF y6) (vB p0.not_))), (49, (.ite (gF y6) (.ptr 1 2)))]
 refine st 2 a12 (nx (bi (so ?_)))
 let a13 : St := a12.p [(60, (vB (decide (p0.kind = 1)))), (61, (vB (decide (p0.kind = 1))))]
 refine st 2 a13 (nx ?_)
 refine cd h (fun h => ?_) fun h => ?_
 refine so ?_
 let a14 : St := a13.p [(63, (vGValue p0.value)), (62, (.ptr 1 3))]
 refine st 2 a14 (cs h (OK_sL7Lit p0.value) fun y10 h => ?_)
 let a15 : St := a14.p [(65, (vB y10)), (64, (vB y10))]
 refine st 1 a15 (gp true y10 (vI (p0.kids.length : Int)) (fun hc => vl) (gp true y10 (vI (p0.sub.length : Int)) (fun hc => vl) (gp true y10 (vI (IntKind.wrap .i64 ((p0.kids.length : Int) + (p0.sub.length : Int)))) (fun hc => vop_val1 (Eq.trans (b := ([(true && (y10 == true)), (true && (y10 == true))] : List Bool).all id) (by kernel_rfl) (all_c hc (all_c hc rfl))) (by kernel_rfl)) ?_)))
 refine gp true y10 (vB (decide ((IntKind.wrap .i64 ((p0.kids.length : Int) + (p0.sub.length : Int))) = 0))) (fun hc => vg hc) (vs (fun (y : Bool) => (vB y)) h (fun y hy => vop_pickV hy (p := (true && (y10 == true))) (q := true) (by kernel_rfl) (by kernel_rfl) (by kernel_rfl) (by kernel_rfl) (fun hb => gc_t rfl hb) (fun _ => rfl)) fun y11 h => ?_)
 let a16 : St := a15.p [(2, (vB y11)), (70, (vB y11)), (69, (.ite (gT y10) (vB (decide ((IntKind.wrap .i64 ((p0.kids.length : Int) + (p0.sub.length : Int))) = 0))))), (68, (.ite (gT y10) (vI (IntKind.wrap .i64 ((p0.kids.length : Int) + (p0.sub.length : Int)))))), (67, (.ite (gT y10) (vI (p0.sub.length : Int)))), (66, (.ite (gT y10) (vI (p0.kids.length : Int))))]
 refine st 1 a16 (nx (ri (br (tr ?_))))
 injection h with h; subst h
 exact ret1_step (v := (vB y11)) (by kernel_rfl) (by kernel_rfl) (by kernel_rfl)
 refine so ?_
 let a17 : St := a13.p [(71, (vB (decide (p0.kind = 2)))), (72, (vB (decide (p0.kind = 2))))]
 refine st 2 a17 (nx ?_)
 refine cd h (fun h => ?_) fun h => ?_
 refine so ?_
 let a18 : St := a17.p [(74, (vS p0.name)), (73, (.ptr 1 7))]
 refine st 2 a18 (cs h (OK_sNameOk p0.name) fun y12 h => ?_)
 let a19 : St := a18.p [(76, (vB y12)), (75, (vB y12))]
 refine st 1 a19 (gp true y12 (.ptr 1 6) (fun hc => vl) (gp true y12 (vS p0.qual) (fun hc => vg hc) ?_))
 refine gcall_step (p := true) (b := y12) (m := sL7Maybe p0.qual) (dflt := default) (args := [(vS p0.qual)]) (v' := (fun y => (vB y))) h (by kernel_rfl) (OK_sL7Maybe p0.qual) (fun hc => by kernel_rfl) (by kernel_rfl) (fun _ => rfl) (fun hc => (Eq.trans (b := ([(true && (y12 == true))] : List Bool).all id) (by kernel_rfl) (all_c hc rfl))) ?_
 clear h; intro y13 h
 refine vs (fun (y : Bool) => (vB y)) h (fun y hy => vop_pickV hy (p := (true && (y12 == true))) (q := true) (by kernel_rfl) (by kernel_rfl) (by kernel_rfl) (by kernel_rfl) (fun hb => gc_t rfl hb) (fun _ => rfl)) fun y14 h => ?_
 let a20 : St := a19.p [(81, (vB y14)), (80, (vB y14)), (79, (.ite (gT y12) (vB y13))), (78, (.ite (gT y12) (vS p0.qual))), (77, (.ite (gT y12) (.ptr 1 6)))]
 refine st 1 a20 (gp true y14 (vI (p0.kids.length : Int)) (fun hc => vl) (gp true y14 (vI (p0.sub.length : Int)) (fun hc => vl) (gp true y14 (vI (IntKind.wrap .i64 ((p0.kids.length : Int) + (p0.sub.length : Int)))) (fun hc => vop_val1 (Eq.trans (b := ([(true && (y14 == true)), (true && (y14 == true))] : List Bool).all id) (by kernel_rfl) (all_c hc (all_c hc rfl))) (by kernel_rfl)) ?_)))
 refine gp true y14 (vB (decide ((IntKind.wrap .i64 ((p0.kids.length : Int) + (p0.sub.length : Int))) = 0))) (fun hc => vg hc) (vs (fun (y : Bool) => (vB y)) h (fun y hy => vop_pickV hy (p := (true && (y14 == true))) (q := true) (by kernel_rfl) (by kernel_rfl) (by kernel_rfl) (by kernel_rfl) (fun hb => gc_t rfl hb) (fun _ => rfl)) fun y15 h => ?_)
 let a21 : St := a20.p [(2, (vB y15)), (86, (vB y15)), (85, (.ite (gT y14) (vB (decide ((IntKind.wrap .i64 ((p0.kids.length : Int) + (p0.sub.length : Int))) = 0))))), (84, (.ite (gT y14) (vI (IntKind.wrap .i64 ((p0.kids.length : Int) + (p0.sub.length : Int)))))), (83, (.ite (gT y14) (vI (p0.sub.length : Int)))), (82, (.ite (gT y14) (vI (p0.kids.length : Int))))]
 refine st 1 a21 (nx (ri (br (tr ?_))))
 injection h with h; subst h
 exact ret1_step (v := (vB y15)) (by kernel_rfl) (by kernel_rfl) (by kernel_rfl)
 refine so ?_
 let a22 : St := a17.p [(87, (vB (decide (p0.kind = 3)))), (88, (vB (decide (p0.kind = 3))))]
 refine st 2 a22 (nx ?_)
 refine cd h (fun h => ?_) fun h => ?_
 refine so ?_
 let a23 : St := a22.p [(92, (vB (decide (p0.op = 15)))), (91, (vB (decide (p0.op = 15)))), (90, (vI p0.op)), (89, (.ptr 1 1))]
 refine st 4 a23 (gp true (decide (p0.op = 15)) (.ptr 1 1) (fun hc => vl) (gp true (decide (p0.op = 15)) (vI p0.op) (fun hc => vg hc) (gp true (decide (p0.op = 15)) (vB (decide (p0.op = 16))) (fun hc => vg hc) ?_)))
 refine vs (fun (y : Bool) => (vB y)) h (fun y hy => vop_pickV hy (p := true) (q := (true && ((decide (p0.op = 15)) == false))) (by kernel_rfl) (by kernel_rfl) (by kernel_rfl) (by kernel_rfl) (fun _ => rfl) (fun hb => gc_f rfl hb)) fun y16 h => ?_
 let a24 : St := a23.p [(97, (vB y16)), (96, (vB y16)), (95, (.ite (true && ((decide (p0.op = 15)) == false)) (vB (decide (p0.op = 16))))), (94, (.ite (true && ((decide (p0.op = 15)) == false)) (vI p0.op))), (93, (.ite (true && ((decide (p0.op = 15)) == false)) (.ptr 1 1)))]
 refine st 1 a24 (gp true y16 (vI (p0.kids.length : Int)) (fun hc => vl) (gp true y16 (vB (decide ((p0.kids.length : Int) = 1))) (fun hc => vg hc) (vs (fun (y : Bool) => (vB y)) h (fun y hy => vop_pickV hy (p := (true && (y16 == true))) (q := true) (by kernel_rfl) (by kernel_rfl) (by kernel_rfl) (by kernel_rfl) (fun hb => gc_t rfl hb) (fun _ => rfl)) fun y17 h => ?_)))
 let a25 : St := a24.p [(101, (vB y17)), (100, (vB y17)), (99, (.ite (gT y16) (vB (decide ((p0.kids.length : Int) = 1))))), (98, (.ite (gT y16) (vI (p0.kids.length : Int))))]
 refine st 1 a25 (gp true y17 (vI (p0.sub.length : Int)) (fun hc => vl) (gp true y17 (vB (decide ((p0.sub.length : Int) = 0))) (fun hc => vg hc) (vs (fun (y : Bool) => (vB y)) h (fun y hy => vop_pickV hy (p := (true && (y17 == true))) (q := true) (by kernel_rfl) (by kernel_rfl) (by kernel_rfl) (by kernel_rfl) (fun hb => gc_t rfl hb) (fun _ => rfl)) fun y18 h => ?_)))
 let a26 : St := a25.p [(2, (vB y18)), (104, (vB y18)), (103, (.ite (gT y17) (vB (decide ((p0.sub.length : Int) = 0))))), (102, (.ite (gT y17) (vI (p0.sub.length : Int))))]
 refine st 1 a26 (nx (ri (br (tr ?_))))
 injection h with h; subst h
 exact ret1_step (v := (vB y18)) (by kernel_rfl) (by kernel_rfl) (by kernel_rfl)
 refine so ?_
 let a27 : St := a22.p [(105, (vB (decide (p0.kind = 4)))), (106, (vB (decide (p0.kind = 4))))]
 refine st 2 a27 (nx ?_)
 refine cd h (fun h => ?_) fun h => ?_
 refine so ?_
 let a28 : St := a27.p [(108, (vI p0.op)), (107, (.ptr 1 1))]
 refine st 2 a28 (cs h (OK_sL1In p0.op 1 14) fun y19 h => ?_)
 let a29 : St := a28.p [(110, (vB y19)), (109, (vB y19))]
 refine st 1 a29 (gp true y19 (vI (p0.kids.length : Int)) (fun hc => vl) (gp true y19 (vB (decide ((p0.kids.length : Int) = 2))) (fun hc => vg hc) (vs (fun (y : Bool) => (vB y)) h (fun y hy => vop_pickV hy (p := (true && (y19 == true))) (q := true) (by kernel_rfl) (by kernel_rfl) (by kernel_rfl) (by kernel_rfl) (fun hb => gc_t rfl hb) (fun _ => rfl)) fun y20 h => ?_)))
 let a30 : St := a29.p [(114, (vB y20)), (113, (vB y20)), (112, (.ite (gT y19) (vB (decide ((p0.kids.length : Int) = 2))))), (111, (.ite (gT y19) (vI (p0.kids.length : Int))))]
 refine st 1 a30 (gp true y20 (vI (p0.sub.length : Int)) (fun hc => vl) (gp true y20 (vB (decide ((p0.sub.length : Int) = 0))) (fun hc => vg hc) (vs (fun (y : Bool) => (vB y)) h (fun y hy => vop_pickV hy (p := (true && (y20 == true))) (q := true) (by kernel_rfl) (by kernel_rfl) (by kernel_rfl) (by kernel_rfl) (fun hb => gc_t rfl hb) (fun _ => rfl)) fun y21 h => ?_)))
 let a31 : St := a30.p [(2, (vB y21)), (117, (vB y21)), (116, (.ite (gT y20) (vB (decide ((p0.sub.length : Int) = 0))))), (115, (.ite (gT y20) (vI (p0.sub.length : Int))))]
 refine st 1 a31 (nx (ri (br (tr ?_))))
 injection h with h; subst h
 exact ret1_step (v := (vB y21)) (by kernel_rfl) (by kernel_rfl) (by kernel_rfl)
 refine so ?_
 let a32 : St := a27.p [(118, (vB (decide (p0.kind = 5)))), (119, (vB (decide (p0.kind = 5))))]
 refine st 2 a32 (nx ?_)
 refine cd h (fun h => ?_) fun h => ?_
 refine so ?_
 let a33 : St := a32.p [(122, (vB (decide ((p0.kids.length : Int) = 1)))), (121, (vB (decide ((p0.kids.length : Int) = 1)))), (120, (vI (p0.kids.length : Int)))]
 refine st 3 a33 (gp true (decide ((p0.kids.length : Int) = 1)) (vI (p0.sub.length : Int)) (fun hc => vl) (gp true (decide ((p0.kids.length : Int) = 1)) (vB (decide ((p0.sub.length : Int) = 0))) (fun hc => vg hc) ?_))
 refine vs (fun (y : Bool) => (vB y)) h (fun y hy => vop_pickV hy (p := (true && ((decide ((p0.kids.length : Int) = 1)) == true))) (q := true) (by kernel_rfl) (by kernel_rfl) (by kernel_rfl) (by kernel_rfl) (fun hb => gc_t rfl hb) (fun _ => rfl)) fun y22 h => ?_
 let a34 : St := a33.p [(2, (vB y22)), (125, (vB y22)), (124, (.ite (true && ((decide ((p0.kids.length : Int) = 1)) == true)) (vB (decide ((p0.sub.length : Int) = 0))))), (123, (.ite (true && ((decide ((p0.kids.length : Int) = 1)) == true)) (vI (p0.sub.length : Int))))]
 refine st 1 a34 (nx (ri (br (tr ?_))))
 injection h with h; subst h
 exact ret1_step (v := (vB y22)) (by kernel_rfl) (by kernel_rfl) (by kernel_rfl)
 refine so ?_
 let a35 : St := a32.p [(126, (vB (decide (p0.kind = 6)))), (127, (vB (decide (p0.kind = 6))))]
 refine st 2 a35 (nx ?_)
 refine cd h (fun h => ?_) fun h => ?_
 refine so ?_
 let a36 : St := a35.p [(130, (vB (decide ((p0.kids.length : Int) = 3)))), (129, (vB (decide ((p0.kids.length : Int) = 3)))), (128, (vI (p0.kids.length : Int)))]
 refine st 3 a36 (gp true (decide ((p0.kids.length : Int) = 3)) (vI (p0.sub.length : Int)) (fun hc => vl) (gp true (decide ((p0.kids.length : Int) = 3)) (vB (decide ((p0.sub.length : Int) = 0))) (fun hc => vg hc) ?_))
 refine vs (fun (y : Bool) => (vB y)) h (fun y hy => vop_pickV hy (p := (true && ((decide ((p0.kids.length : Int) = 3)) == true))) (q := true) (by kernel_rfl) (by kernel_rfl) (by kernel_rfl) (by kernel_rfl) (fun hb => gc_t rfl hb) (fun _ => rfl)) fun y23 h => ?_
 let a37 : St := a36.p [(2, (vB y23)), (133, (vB y23)), (132, (.ite (true && ((decide ((p0.kids.length : Int) = 3)) == true)) (vB (decide ((p0.sub.length : Int) = 0))))), (131, (.ite (true && ((decide ((p0.kids.length : Int) = 3)) == true)) (vI (p0.sub.length : Int))))]
 refine st 1 a37 (nx (ri (br (tr ?_))))
 injection h with h; subst h
 exact ret1_step (v := (vB y23)) (by kernel_rfl) (by kernel_rfl) (by kernel_rfl)
 refine so ?_
 let a38 : St := a35.p [(134, (vB (decide (p0.kind = 7)))), (135, (vB (decide (p0.kind = 7))))]
 refine st 2 a38 (nx ?_)
 refine cd h (fun h => ?_) fun h => ?_
 refine so ?_
 let a39 : St := a38.p [(136, (vI (p0.kids.length : Int)))]
 refine st 1 a39 (cs h (OK_sL1In (p0.kids.length : Int) 2 9) fun y24 h => ?_)
 let a40 : St := a39.p [(138, (vB y24)), (137, (vB y24))]
 refine st 1 a40 (gp true y24 (vI (p0.sub.length : Int)) (fun hc => vl) (gp true y24 (vB (decide ((p0.sub.length : Int) = 0))) (fun hc => vg hc) (vs (fun (y : Bool) => (vB y)) h (fun y hy => vop_pickV hy (p := (true && (y24 == true))) (q := true) (by kernel_rfl) (by kernel_rfl) (by kernel_rfl) (by kernel_rfl) (fun hb => gc_t rfl hb) (fun _ => rfl)) fun y25 h => ?_)))
 let a41 : St := a40.p [(2, (vB y25)), (141, (vB y25)), (140, (.ite (gT y24) (vB (decide ((p0.sub.length : Int) = 0))))), (139, (.ite (gT y24) (vI (p0.sub.length : Int))))]
 refine st 1 a41 (nx (ri (br (tr ?_))))
 injection h with h; subst h
 exact ret1_step (v := (vB y25)) (by kernel_rfl) (by kernel_rfl) (by kernel_rfl)
 refine so ?_
 let a42 : St := a38.p [(142, (vB (decide (p0.kind = 8)))), (143, (vB (decide (p0.kind = 8))))]
 refine st 2 a42 (nx ?_)
 refine cd h (fun h => ?_) fun h => ?_
 refine so ?_
 let a43 : St := a42.p [(146, (vB (decide ((p0.kids.length : Int) = 1)))), (145, (vB (decide ((p0.kids.length : Int) = 1)))), (144, (vI (p0.kids.length : Int)))]
 refine st 3 a43 (gp true (decide ((p0.kids.length : Int) = 1)) (vI (p0.sub.length : Int)) (fun hc => vl) (gp true (decide ((p0.kids.length : Int) = 1)) (vB (decide ((p0.sub.length : Int) = 1))) (fun hc => vg hc) ?_))
 refine vs (fun (y : Bool) => (vB y)) h (fun y hy => vop_pickV hy (p := (true && ((decide ((p0.kids.length : Int) = 1)) == true))) (q := true) (by kernel_rfl) (by kernel_rfl) (by kernel_rfl) (by kernel_rfl) (fun hb => gc_t rfl hb) (fun _ => rfl)) fun y26 h => ?_
 let a44 : St := a43.p [(2, (vB y26)), (149, (vB y26)), (148, (.ite (true && ((decide ((p0.kids.length : Int) = 1)) == true)) (vB (decide ((p0.sub.length : Int) = 1))))), (147, (.ite (true && ((decide ((p0.kids.length : Int) = 1)) == true)) (vI (p0.sub.length : Int))))]
 refine st 1 a44 (nx (ri (br (tr ?_))))
 injection h with h; subst h
 exact ret1_step (v := (vB y26)) (by kernel_rfl) (by kernel_rfl) (by kernel_rfl)
 refine so ?_
 let a45 : St := a42.p [(150, (vB (decide (p0.kind = 9)))), (151, (vB (decide (p0.kind = 9))))]
 refine st 2 a45 (nx ?_)
 refine cd h (fun h => ?_) fun h => ?_
 refine so ?_
 let a46 : St := a45.p [(154, (vB (decide ((p0.kids.length : Int) = 0)))), (153, (vB (decide ((p0.kids.length : Int) = 0)))), (152, (vI (p0.kids.length : Int)))]
 refine st 3 a46 (gp true (decide ((p0.kids.length : Int) = 0)) (vI (p0.sub.length : Int)) (fun hc => vl) (gp true (decide ((p0.kids.length : Int) = 0)) (vB (decide ((p0.sub.length : Int) = 1))) (fun hc => vg hc) ?_))
 refine vs (fun (y : Bool) => (vB y)) h (fun y hy => vop_pickV hy (p := (true && ((decide ((p0.kids.length : Int) = 0)) == true))) (q := true) (by kernel_rfl) (by kernel_rfl) (by kernel_rfl) (by kernel_rfl) (fun hb => gc_t rfl hb) (fun _ => rfl)) fun y27 h => ?_
 let a47 : St := a46.p [(2, (vB y27)), (157, (vB y27)), (156, (.ite (true && ((decide ((p0.kids.length : Int) = 0)) == true)) (vB (decide ((p0.sub.length : Int) = 1))))), (155, (.ite (true && ((decide ((p0.kids.length : Int) = 0)) == true)) (vI (p0.sub.length : Int))))]
 refine st 1 a47 (nx (ri (br (tr ?_))))
 injection h with h; subst h
 exact ret1_step (v := (vB y27)) (by kernel_rfl) (by kernel_rfl) (by kernel_rfl)
 refine ki (bn (xi (so ?_)))
 let a48 : St := a45.p [(2, (vB false))]
 refine st 1 a48 (nx (ri ?_))
 injection h with h; subst h
 exact ret1_step (v := (vB false)) (by kernel_rfl) (by kernel_rfl) (by kernel_rfl)
theorem OKs_sSameQuery_L2 : (∀ (p0 : GQuery) (p1 : GQuery) (x11 : Int) (r : Bool), sSameQuery_L2 p0 p1 x11 = some r → avc Try.prog acsSameQuery_L2 (qsSameQuery_5 r) (stsSameQuery_L2 p0 p1 x11)) ∧ (∀ (p0 : GExpr) (p1 : GExpr) (r : Bool), sSameExpr p0 p1 = some r → ACalls Try.prog 154 [(vGExpr p0), (vGExpr p1)] [] fun x _ => x = (fun y => (vB y)) r) ∧ (∀ (p0 : GExpr) (p1 : GExpr) (x5 : Int) (r : Bool), sSameExpr_L0 p0 p1 x5 = some r → avc Try.prog acsSameExpr_L0 (qsSameExpr_1 r) (stsSameExpr_L0 p0 p1 x5)) ∧ (∀ (p0 : GQuery) (p1 : GQuery) (r : Bool), sSameQuery p0 p1 = some r → ACalls Try.prog 190 [(vGQuery p0), (vGQuery p1)] [] fun x _ => x = (fun y => (vB y)) r) ∧ (∀ (p0 : GQuery) (p1 : GQuery) (x5 : Int) (r : Bool), sSameQuery_L0 p0 p1 x5 = some r → avc Try.prog acsSameQuery_L0 (qsSameQuery_1 r) (stsSameQuery_L0 p0 p1 x5)) ∧ (∀ (p0 : GQuery) (p1 : GQuery) (x8 : Int) (r : Bool), sSameQuery_L1 p0 p1 x8 = some r → avc Try.prog acsSameQuery_L1 (qsSameQuery_3 r) (stsSameQuery_L1 p0 p1 x8)) ∧ (∀ (p0 : (List GExpr)) (p1 : (List GExpr)) (r : Bool), sL7Same p0 p1 = some r → ACalls Try.prog 189 [(.d (.sl 10 (p0.map cGExpr))), (.d (.sl 10 (p1.map cGExpr)))] [] fun x _ => x = (fun y => (vB y)) r) ∧ (∀ (p0 : (List GExpr)) (p1 : (List GExpr)) (x5 : Int) (r : Bool), sL7Same_L0 p0 p1 x5 = some r → avc Try.prog acsL7Same_L0 (qsL7Same_1 r) (stsL7Same_L0 p0 p1 x5)) := by
 refine sSameQuery_L2.mutual_partial_correctness (fun p0 p1 x11 r => avc Try.prog acsSameQuery_L2 (qsSameQuery_5 r) (stsSameQuery_L2 p0 p1 x11)) (fun p0 p1 r => ACalls Try.prog 154 [(vGExpr p0), (vGExpr p1)] [] fun x _ => x = (fun y => (vB y)) r) (fun p0 p1 x5 r => avc Try.prog acsSameExpr_L0 (qsSameExpr_1 r) (stsSameExpr_L0 p0 p1 x5)) (fun p0 p1 r => ACalls Try.prog 190 [(vGQuery p0), (vGQuery p1)] [] fun x _ => x = (fun y => (vB y)) r) (fun p0 p1 x5 r => avc Try.prog acsSameQuery_L0 (qsSameQuery_1 r) (stsSameQuery_L0 p0 p1 x5)) (fun p0 p1 x8 r => avc Try.prog acsSameQuery_L1 (qsSameQuery_3 r) (stsSameQuery_L1 p0 p1 x8)) (fun p0 p1 r => ACalls Try.prog 189 [(.d (.sl 10 (p0.map cGExpr))), (.d (.sl 10 (p1.map cGExpr)))] [] fun x _ => x = (fun y => (vB y)) r) (fun p0 p1 x5 r => avc Try.prog acsL7Same_L0 (qsL7Same_1 r) (stsL7Same_L0 p0 p1 x5)) ?_ ?_ ?_ ?_ ?_ ?_ ?_ ?_
 · intro F_sSameQuery_L2 F_sSameExpr OK_sSameQuery_L2 OK_sSameExpr p0 p1 x11 r h
   delta acsSameQuery_L2
   refine loop_unroll (si (so ?_))
   let a31 : St := (stsSameQuery_L2 p0 p1 x11).p [(142, (.d (.sl 11 (p0.order.map cGSortKey)))), (141, (.ptr 2 4)), (140, (vI x11))]
   refine st 3 a31 (ps (vI (p0.order.length : Int)) (vop_len (sz := 11) (l := p0.order) (f := cGSortKey) (by kernel_rfl) (by kernel_rfl)) ?_)
   let a32 : St := a31.p [(144, (vB (decide (x11 < (p0.order.length : Int))))), (143, (vI (p0.order.length : Int)))]
   refine st 1 a32 (nx ?_)
   refine cd h (fun h => ?_) fun h => ?_
   refine ki (xi (si (bi (si (dops_in ?_)))))
   let a33 : St := a32.p [(149, (vI x11)), (148, (.d (.sl 11 (p0.order.map cGSortKey)))), (147, (.ptr 2 4))]
   refine dsts_ok 3 (s' := a33) (by kernel_rfl) (dv_step (m := idx p0.order x11) (v' := fun y => (.rp (oGSortKey y))) h rfl rfl (fun y hy => vop_ia (l := p0.order) (f := cGSortKey) (g := oGSortKey) (k := .i64) hy cGSortKey_eq (by kernel_rfl) (by kernel_rfl) (by kernel_rfl)) ?_)
   clear h; intro y18 h
   let a34 : St := a33.p [(155, (vI x11)), (154, (.d (.sl 11 (p1.order.map cGSortKey)))), (153, (.ptr 3 4)), (152, (vB y18.desc)), (151, (.rp [(.b y18.desc)])), (150, (.rp (oGSortKey y18)))]
   refine dsts_ok 5 (s' := a34) (by kernel_rfl) (dv_step (m := idx p1.order x11) (v' := fun y => (.rp (oGSortKey y))) h rfl rfl (fun y hy => vop_ia (l := p1.order) (f := cGSortKey) (g := oGSortKey) (k := .i64) hy cGSortKey_eq (by kernel_rfl) (by kernel_rfl) (by kernel_rfl)) ?_)
   clear h; intro y19 h
   let a35 : St := a34.p [(160, (vB (!(y18.desc == y19.desc)))), (159, (vB (!(y18.desc == y19.desc)))), (158, (vB y19.desc)), (157, (.rp [(.b y19.desc)])), (156, (.rp (oGSortKey y19)))]
   refine dsts_ok 4 (s' := a35) (by kernel_rfl) (dgp_step (p := true) (b := (!(y18.desc == y19.desc))) (v' := (.ptr 2 4)) (by kernel_rfl) rfl rfl (fun hc => vl) (dgp_step (p := true) (b := (!(y18.desc == y19.desc))) (v' := (.d (.sl 11 (p0.order.map cGSortKey)))) (by kernel_rfl) rfl rfl (fun hc => vg hc) (dgp_step (p := true) (b := (!(y18.desc == y19.desc))) (v' := (vI x11)) (by kernel_rfl) rfl rfl (fun hc => vl) ?_)))
   refine dgv_step (p := true) (b := (!(y18.desc == y19.desc))) (m := idx p0.order x11) (dflt := default) (v' := fun y => (.rp (oGSortKey y))) h (by kernel_rfl) rfl rfl (fun y hy hc => vop_ia (l := p0.order) (f := cGSortKey) (g := oGSortKey) (k := .i64) hy cGSortKey_eq (Eq.trans (b := ([(true && ((!(y18.desc == y19.desc)) == false)), (true && ((!(y18.desc == y19.desc)) == false))] : List Bool).all id) (by kernel_rfl) (all_c hc (all_c hc rfl))) (by kernel_rfl) (by kernel_rfl)) ?_
   clear h; intro y20 h
   refine dgp_step (p := true) (b := (!(y18.desc == y19.desc))) (v' := (.rp [(.i .i64 y20.expr.kind), (.i .i64 y20.expr.op), (.b y20.expr.not_), (.i .i64 y20.expr.value.kind), (.i .i64 y20.expr.value.num), (.s (bs y20.expr.value.text)), (.s (bs y20.expr.qual)), (.s (bs y20.expr.name)), (.sl 10 (y20.expr.kids.map cGExpr)), (.sl 6 (y20.expr.sub.map cGQuery)), (.b y20.desc)])) (by kernel_rfl) rfl rfl (fun hc => vg hc) ?_
   refine dgp_step (p := true) (b := (!(y18.desc == y19.desc))) (v' := (vGExpr y20.expr)) (by kernel_rfl) rfl rfl (fun hc => vg hc) (dgp_step (p := true) (b := (!(y18.desc == y19.desc))) (v' := (.ptr 3 4)) (by kernel_rfl) rfl rfl (fun hc => vl) (dgp_step (p := true) (b := (!(y18.desc == y19.desc))) (v' := (.d (.sl 11 (p1.order.map cGSortKey)))) (by kernel_rfl) rfl rfl (fun hc => vg hc) ?_))
   refine dgp_step (p := true) (b := (!(y18.desc == y19.desc))) (v' := (vI x11)) (by kernel_rfl) rfl rfl (fun hc => vl) ?_
   refine dgv_step (p := true) (b := (!(y18.desc == y19.desc))) (m := idx p1.order x11) (dflt := default) (v' := fun y => (.rp (oGSortKey y))) h (by kernel_rfl) rfl rfl (fun y hy hc => vop_ia (l := p1.order) (f := cGSortKey) (g := oGSortKey) (k := .i64) hy cGSortKey_eq (Eq.trans (b := ([(true && ((!(y18.desc == y19.desc)) == false)), (true && ((!(y18.desc == y19.desc)) == false))] : List Bool).all id) (by kernel_rfl) (all_c hc (all_c hc rfl))) (by kernel_rfl) (by kernel_rfl)) ?_
   clear h; intro y21 h
   refine dgp_step (p := true) (b := (!(y18.desc == y19.desc))) (v' := (.rp [(.i .i64 y21.expr.kind), (.i .i64 y21.expr.op), (.b y21.expr.not_), (.i .i64 y21.expr.value.kind), (.i .i64 y21.expr.value.num), (.s (bs y21.expr.value.text)), (.s (bs y21.expr.qual)), (.s (bs y21.expr.name)), (.sl 10 (y21.expr.kids.map cGExpr)), (.sl 6 (y21.expr.sub.map cGQuery)), (.b y21.desc)])) (by kernel_rfl) rfl rfl (fun hc => vg hc) ?_
   refine dgp_step (p := true) (b := (!(y18.desc == y19.desc))) (v' := (vGExpr y21.expr)) (by kernel_rfl) rfl rfl (fun hc => vg hc) ?_
   refine dgcall_step (p := true) (b := (!(y18.desc == y19.desc))) (m := F_sSameExpr y20.expr y21.expr) (dflt := default) (args := [(vGExpr y20.expr), (vGExpr y21.expr)]) (v' := (fun y => (vB y))) h (by kernel_rfl) (OK_sSameExpr y20.expr y21.expr) (fun hc => by kernel_rfl) (by kernel_rfl) (fun _ => rfl) (fun hc => (Eq.trans (b := ([(true && ((!(y18.desc == y19.desc)) == false)), (true && ((!(y18.desc == y19.desc)) == false))] : List Bool).all id) (by kernel_rfl) (all_c hc (all_c hc rfl)))) ?_
   clear h; intro y22 h
   refine dgp_step (p := true) (b := (!(y18.desc == y19.desc))) (v' := (vB (!y22))) (by kernel_rfl) rfl rfl (fun hc => vg hc) ?_
   refine dv_step (m := some (if (!(y18.desc == y19.desc)) = true then true else (!y22))) (v' := fun y => (vB y)) h rfl rfl (fun y hy => vop_pickV hy (p := true) (q := (true && ((!(y18.desc == y19.desc)) == false))) (by kernel_rfl) (by kernel_rfl) (by kernel_rfl) (by kernel_rfl) (fun _ => rfl) (fun hb => gc_f rfl hb)) ?_
   clear h; intro y23 h
   refine dnil_in (by kernel_rfl) (by kernel_rfl) (xi ?_)
   refine cd h (fun h => ?_) fun h => ?_
   refine so ?_
   let a36 : St := a35.p [(4, (vB false)), (175, (vB y23)), (174, (.ite (true && ((!(y18.desc == y19.desc)) == false)) (vB (!y22)))), (173, (.ite (true && ((!(y18.desc == y19.desc)) == false)) (vB y22))), (172, (.ite (true && ((!(y18.desc == y19.desc)) == false)) (vGExpr y21.expr))), (171, (.ite (true && ((!(y18.desc == y19.desc)) == false)) (.rp [(.i .i64 y21.expr.kind), (.i .i64 y21.expr.op), (.b y21.expr.not_), (.i .i64 y21.expr.value.kind), (.i .i64 y21.expr.value.num), (.s (bs y21.expr.value.text)), (.s (bs y21.expr.qual)), (.s (bs y21.expr.name)), (.sl 10 (y21.expr.kids.map cGExpr)), (.sl 6 (y21.expr.sub.map cGQuery)), (.b y21.desc)]))), (170, (.ite (true && ((!(y18.desc == y19.desc)) == false)) (.rp (oGSortKey y21)))), (169, (.ite (true && ((!(y18.desc == y19.desc)) == false)) (vI x11))), (168, (.ite (true && ((!(y18.desc == y19.desc)) == false)) (.d (.sl 11 (p1.order.map cGSortKey))))), (167, (.ite (true && ((!(y18.desc == y19.desc)) == false)) (.ptr 3 4))), (166, (.ite (true && ((!(y18.desc == y19.desc)) == false)) (vGExpr y20.expr))), (165, (.ite (true && ((!(y18.desc == y19.desc)) == false)) (.rp [(.i .i64 y20.expr.kind), (.i .i64 y20.expr.op), (.b y20.expr.not_), (.i .i64 y20.expr.value.kind), (.i .i64 y20.expr.value.num), (.s (bs y20.expr.value.text)), (.s (bs y20.expr.qual)), (.s (bs y20.expr.name)), (.sl 10 (y20.expr.kids.map cGExpr)), (.sl 6 (y20.expr.sub.map cGQuery)), (.b y20.desc)]))), (164, (.ite (true && ((!(y18.desc == y19.desc)) == false)) (.rp (oGSortKey y20)))), (163, (.ite (true && ((!(y18.desc == y19.desc)) == false)) (vI x11))), (162, (.ite (true && ((!(y18.desc == y19.desc)) == false)) (.d (.sl 11 (p0.order.map cGSortKey))))), (161, (.ite (true && ((!(y18.desc == y19.desc)) == false)) (.ptr 2 4)))]
   refine st 1 a36 (nx (ri (br (tr (tr (br (tr ?_)))))))
   injection h with h; subst h
   exact ret1_step (v := (vB false)) (by kernel_rfl) (by kernel_rfl) (by kernel_rfl)
   refine ki (bn (xi (oi ?_)))
   let a37 : St := a35.p [(11, (vI (IntKind.wrap .i64 (x11 + 1)))), (146, (vI (IntKind.wrap .i64 (x11 + 1)))), (145, (vI x11)), (175, (vB y23)), (174, (.ite (true && ((!(y18.desc == y19.desc)) == false)) (vB (!y22)))), (173, (.ite (true && ((!(y18.desc == y19.desc)) == false)) (vB y22))), (172, (.ite (true && ((!(y18.desc == y19.desc)) == false)) (vGExpr y21.expr))), (171, (.ite (true && ((!(y18.desc == y19.desc)) == false)) (.rp [(.i .i64 y21.expr.kind), (.i .i64 y21.expr.op), (.b y21.expr.not_), (.i .i64 y21.expr.value.kind), (.i .i64 y21.expr.value.num), (.s (bs y21.expr.value.text)), (.s (bs y21.expr.qual)), (.s (bs y21.expr.name)), (.sl 10 (y21.expr.kids.map cGExpr)), (.sl 6 (y21.expr.sub.map cGQuery)), (.b y21.desc)]))), (170, (.ite (true && ((!(y18.desc == y19.desc)) == false)) (.rp (oGSortKey y21)))), (169, (.ite (true && ((!(y18.desc == y19.desc)) == false)) (vI x11))), (168, (.ite (true && ((!(y18.desc == y19.desc)) == false)) (.d (.sl 11 (p1.order.map cGSortKey))))), (167, (.ite (true && ((!(y18.desc == y19.desc)) == false)) (.ptr 3 4))), (166, (.ite (true && ((!(y18.desc == y19.desc)) == false)) (vGExpr y20.expr))), (165, (.ite (true && ((!(y18.desc == y19.desc)) == false)) (.rp [(.i .i64 y20.expr.kind), (.i .i64 y20.expr.op), (.b y20.expr.not_), (.i .i64 y20.expr.value.kind), (.i .i64 y20.expr.value.num), (.s (bs y20.expr.value.text)), (.s (bs y20.expr.qual)), (.s (bs y20.expr.name)), (.sl 10 (y20.expr.kids.map cGExpr)), (.sl 6 (y20.expr.sub.map cGQuery)), (.b y20.desc)]))), (164, (.ite (true && ((!(y18.desc == y19.desc)) == false)) (.rp (oGSortKey y20)))), (163, (.ite (true && ((!(y18.desc == y19.desc)) == false)) (vI x11))), (162, (.ite (true && ((!(y18.desc == y19.desc)) == false)) (.d (.sl 11 (p0.order.map cGSortKey))))), (161, (.ite (true && ((!(y18.desc == y19.desc)) == false)) (.ptr 2 4)))]
   exact st 3 a37 (ni (loop_back (s' := stsSameQuery_L2 p0 p1 (IntKind.wrap .i64 (x11 + 1))) (wr [] (es (es (es er_nil))) (bs_ (bs_ br_nil))) (OK_sSameQuery_L2 p0 p1 (IntKind.wrap .i64 (x11 + 1)) _ h)))
   refine ei (te (te (bh (xi (so ?_)))))
   let a38 : St := a32.p [(4, (vB true))]
   refine st 1 a38 (nx (ri ?_))
   injection h with h; subst h
   exact ret1_step (v := (vB true)) (by kernel_rfl) (by kernel_rfl) (by kernel_rfl)
 · intro F_sSameExpr_L0 F_sL7Same OK_sSameExpr_L0 OK_sL7Same p0 p1 r h
   refine acalls_of_fn trsSameExpr (Nat.le_of_ble_eq_true rfl) (by simp) ?_
   show avc Try.prog acsSameExpr (qsSameExpr _) ⟨[(0, (vGExpr p0)), (1, (vGExpr p1))], []⟩
   delta acsSameExpr
   refine so ?_
   let a0 : St := ⟨[(4, (vB false)), (3, (.ptr 3 0)), (2, (.ptr 2 0)), (0, (vGExpr p0)), (1, (vGExpr p1))], [(3, bGExpr p1), (2, bGExpr p0)]⟩
   refine st 3 a0 (nx (si (so ?_)))
   let a1 : St := a0.p [(11, (vB (!decide (p0.kind = p1.kind)))), (10, (vB (!decide (p0.kind = p1.kind)))), (9, (vI p1.kind)), (8, (.ptr 3 0)), (7, (vI p0.kind)), (6, (.ptr 2 0))]
   refine st 6 a1 (gp true (!decide (p0.kind = p1.kind)) (.ptr 2 1) (fun hc => vl) (gp true (!decide (p0.kind = p1.kind)) (vI p0.op) (fun hc => vg hc) (gp true (!decide (p0.kind = p1.kind)) (.ptr 3 1) (fun hc => vl) (gp true (!decide (p0.kind = p1.kind)) (vI p1.op) (fun hc => vg hc) ?_))))
   refine gp true (!decide (p0.kind = p1.kind)) (vB (!decide (p0.op = p1.op))) (fun hc => vop_val1 (Eq.trans (b := ([(true && ((!decide (p0.kind = p1.kind)) == false)), (true && ((!decide (p0.kind = p1.kind)) == false))] : List Bool).all id) (by kernel_rfl) (all_c hc (all_c hc rfl))) (by kernel_rfl)) ?_
   refine vs (fun (y : Bool) => (vB y)) h (fun y hy => vop_pickV hy (p := true) (q := (true && ((!decide (p0.kind = p1.kind)) == false))) (by kernel_rfl) (by kernel_rfl) (by kernel_rfl) (by kernel_rfl) (fun _ => rfl) (fun hb => gc_f rfl hb)) fun y1 h => ?_
   let a2 : St := a1.p [(18, (vB y1)), (17, (vB y1)), (16, (.ite (true && ((!decide (p0.kind = p1.kind)) == false)) (vB (!decide (p0.op = p1.op))))), (15, (.ite (true && ((!decide (p0.kind = p1.kind)) == false)) (vI p1.op))), (14, (.ite (true && ((!decide (p0.kind = p1.kind)) == false)) (.ptr 3 1))), (13, (.ite (true && ((!decide (p0.kind = p1.kind)) == false)) (vI p0.op))), (12, (.ite (true && ((!decide (p0.kind = p1.kind)) == false)) (.ptr 2 1)))]
   refine st 1 a2 (gp true y1 (.ptr 2 2) (fun hc => vl) (gp true y1 (vB p0.not_) (fun hc => vg hc) (gp true y1 (.ptr 3 2) (fun hc => vl) (gp true y1 (vB p1.not_) (fun hc => vg hc) (gp true y1 (vB (!(p0.not_ == p1.not_))) (fun hc => vop_val1 (Eq.trans (b := ([(true && (y1 == false)), (true && (y1 == false))] : List Bool).all id) (by kernel_rfl) (all_c hc (all_c hc rfl))) (by kernel_rfl)) ?_)))))
   refine vs (fun (y : Bool) => (vB y)) h (fun y hy => vop_pickV hy (p := true) (q := (true && (y1 == false))) (by kernel_rfl) (by kernel_rfl) (by kernel_rfl) (by kernel_rfl) (fun _ => rfl) (fun hb => gc_f rfl hb)) fun y2 h => ?_
   let a3 : St := a2.p [(25, (vB y2)), (24, (vB y2)), (23, (.ite (gF y1) (vB (!(p0.not_ == p1.not_))))), (22, (.ite (gF y1) (vB p1.not_))), (21, (.ite (gF y1) (.ptr 3 2))), (20, (.ite (gF y1) (vB p0.not_))), (19, (.ite (gF y1) (.ptr 2 2)))]
   refine st 1 a3 (gp true y2 (.ptr 2 3) (fun hc => vl) (gp true y2 (vGValue p0.value) (fun hc => vg hc) (gp true y2 (.ptr 3 3) (fun hc => vl) (gp true y2 (vGValue p1.value) (fun hc => vg hc) ?_))))
   refine gp true y2 (vB (!((decide (p0.value.kind = p1.value.kind)) && ((decide (p0.value.num = p1.value.num)) && ((decide (p0.value.text = p1.value.text)) && true))))) (fun hc => vop_val1 (Eq.trans (b := ([(true && (y2 == false)), (true && (y2 == false))] : List Bool).all id) (by kernel_rfl) (all_c hc (all_c hc rfl))) (by kernel_rfl)) ?_
   refine vs (fun (y : Bool) => (vB y)) h (fun y hy => vop_pickV hy (p := true) (q := (true && (y2 == false))) (by kernel_rfl) (by kernel_rfl) (by kernel_rfl) (by kernel_rfl) (fun _ => rfl) (fun hb => gc_f rfl hb)) fun y3 h => ?_
   let a4 : St := a3.p [(32, (vB y3)), (31, (vB y3)), (30, (.ite (gF y2) (vB (!((decide (p0.value.kind = p1.value.kind)) && ((decide (p0.value.num = p1.value.num)) && ((decide (p0.value.text = p1.value.text)) && true))))))), (29, (.ite (gF y2) (vGValue p1.value))), (28, (.ite (gF y2) (.ptr 3 3))), (27, (.ite (gF y2) (vGValue p0.value))), (26, (.ite (gF y2) (.ptr 2 3)))]
   refine st 1 a4 (gp true y3 (.ptr 2 6) (fun hc => vl) (gp true y3 (vS p0.qual) (fun hc => vg hc) (gp true y3 (.ptr 3 6) (fun hc => vl) (gp true y3 (vS p1.qual) (fun hc => vg hc) (gp true y3 (vB (!decide (p0.qual = p1.qual))) (fun hc => vop_val1 (Eq.trans (b := ([(true && (y3 == false)), (true && (y3 == false))] : List Bool).all id) (by kernel_rfl) (all_c hc (all_c hc rfl))) (by kernel_rfl)) ?_)))))
   refine vs (fun (y : Bool) => (vB y)) h (fun y hy => vop_pickV hy (p := true) (q := (true && (y3 == false))) (by kernel_rfl) (by kernel_rfl) (by kernel_rfl) (by kernel_rfl) (fun _ => rfl) (fun hb => gc_f rfl hb)) fun y4 h => ?_
   let a5 : St := a4.p [(39, (vB y4)), (38, (vB y4)), (37, (.ite (gF y3) (vB (!decide (p0.qual = p1.qual))))), (36, (.ite (gF y3) (vS p1.qual))), (35, (.ite (gF y3) (.ptr 3 6))), (34, (.ite (gF y3) (vS p0.qual))), (33, (.ite (gF y3) (.ptr 2 6)))]
   refine st 1 a5 (gp true y4 (.ptr 2 7) (fun hc => vl) (gp true y4 (vS p0.name) (fun hc => vg hc) (gp true y4 (.ptr 3 7) (fun hc => vl) (gp true y4 (vS p1.name) (fun hc => vg hc) (gp true y4 (vB (!decide (p0.name = p1.name))) (fun hc => vop_val1 (Eq.trans (b := ([(true && (y4 == false)), (true && (y4 == false))] : List Bool).all id) (by kernel_rfl) (all_c hc (all_c hc rfl))) (by kernel_rfl)) ?_)))))
   refine vs (fun (y : Bool) => (vB y)) h (fun y hy => vop_pickV hy (p := true) (q := (true && (y4 == false))) (by kernel_rfl) (by kernel_rfl) (by kernel_rfl) (by kernel_rfl) (fun _ => rfl) (fun hb => gc_f rfl hb)) fun y5 h => ?_
   let a6 : St := a5.p [(46, (vB y5)), (45, (vB y5)), (44, (.ite (gF y4) (vB (!decide (p0.name = p1.name))))), (43, (.ite (gF y4) (vS p1.name))), (42, (.ite (gF y4) (.ptr 3 7))), (41, (.ite (gF y4) (vS p0.name))), (40, (.ite (gF y4) (.ptr 2 7)))]
   refine st 1 a6 (gp true y5 (.ptr 2 9) (fun hc => vl) (gp true y5 (.d (.sl 6 (p0.sub.map cGQuery))) (fun hc => vg hc) (gp true y5 (vI (p0.sub.length : Int)) (fun hc => vop_len (sz := 6) (l := p0.sub) (f := cGQuery) (Eq.trans (b := ([(true && (y5 == false))] : List Bool).all id) (by kernel_rfl) (all_c hc rfl)) (by kernel_rfl)) (gp true y5 (.ptr 3 9) (fun hc => vl) ?_))))
   refine gp true y5 (.d (.sl 6 (p1.sub.map cGQuery))) (fun hc => vg hc) (gp true y5 (vI (p1.sub.length : Int)) (fun hc => vop_len (sz := 6) (l := p1.sub) (f := cGQuery) (Eq.trans (b := ([(true && (y5 == false))] : List Bool).all id) (by kernel_rfl) (all_c hc rfl)) (by kernel_rfl)) ?_)
   refine gp true y5 (vB (!decide ((p0.sub.length : Int) = (p1.sub.length : Int)))) (fun hc => vop_val1 (Eq.trans (b := ([(true && (y5 == false)), (true && (y5 == false))] : List Bool).all id) (by kernel_rfl) (all_c hc (all_c hc rfl))) (by kernel_rfl)) ?_
   refine vs (fun (y : Bool) => (vB y)) h (fun y hy => vop_pickV hy (p := true) (q := (true && (y5 == false))) (by kernel_rfl) (by kernel_rfl) (by kernel_rfl) (by kernel_rfl) (fun _ => rfl) (fun hb => gc_f rfl hb)) fun y6 h => ?_
   let a7 : St := a6.p [(55, (vB y6)), (54, (vB y6)), (53, (.ite (gF y5) (vB (!decide ((p0.sub.length : Int) = (p1.sub.length : Int)))))), (52, (.ite (gF y5) (vI (p1.sub.length : Int)))), (51, (.ite (gF y5) (.d (.sl 6 (p1.sub.map cGQuery))))), (50, (.ite (gF y5) (.ptr 3 9))), (49, (.ite (gF y5) (vI (p0.sub.length : Int)))), (48, (.ite (gF y5) (.d (.sl 6 (p0.sub.map cGQuery))))), (47, (.ite (gF y5) (.ptr 2 9)))]
   refine st 1 a7 (gp true y6 (.ptr 2 8) (fun hc => vl) (gp true y6 (.d (.sl 10 (p0.kids.map cGExpr))) (fun hc => vg hc) (gp true y6 (.ptr 3 8) (fun hc => vl) (gp true y6 (.d (.sl 10 (p1.kids.map cGExpr))) (fun hc => vg hc) ?_))))
   refine gcall_step (p := true) (b := y6) (m := F_sL7Same p0.kids p1.kids) (dflt := default) (args := [(.d (.sl 10 (p0.kids.map cGExpr))), (.d (.sl 10 (p1.kids.map cGExpr)))]) (v' := (fun y => (vB y))) h (by kernel_rfl) (OK_sL7Same p0.kids p1.kids) (fun hc => by kernel_rfl) (by kernel_rfl) (fun _ => rfl) (fun hc => (Eq.trans (b := ([(true && (y6 == false)), (true && (y6 == false))] : List Bool).all id) (by kernel_rfl) (all_c hc (all_c hc rfl)))) ?_
   clear h; intro y7 h
   refine gp true y6 (vB (!y7)) (fun hc => vg hc) (vs (fun (y : Bool) => (vB y)) h (fun y hy => vop_pickV hy (p := true) (q := (true && (y6 == false))) (by kernel_rfl) (by kernel_rfl) (by kernel_rfl) (by kernel_rfl) (fun _ => rfl) (fun hb => gc_f rfl hb)) fun y8 h => (nx ?_))
   refine cd h (fun h => ?_) fun h => ?_
   refine so ?_
   let a8 : St := a7.p [(4, (vB false)), (62, (vB y8)), (61, (.ite (gF y6) (vB (!y7)))), (60, (.ite (gF y6) (vB y7))), (59, (.ite (gF y6) (.d (.sl 10 (p1.kids.map cGExpr))))), (58, (.ite (gF y6) (.ptr 3 8))), (57, (.ite (gF y6) (.d (.sl 10 (p0.kids.map cGExpr))))), (56, (.ite (gF y6) (.ptr 2 8)))]
   refine st 1 a8 (nx (ri (tr ?_)))
   injection h with h; subst h
   exact ret1_step (v := (vB false)) (by kernel_rfl) (by kernel_rfl) (by kernel_rfl)
   refine ki (xi (si (so ?_)))
   let a9 : St := a7.p [(5, (vI 0)), (62, (vB y8)), (61, (.ite (gF y6) (vB (!y7)))), (60, (.ite (gF y6) (vB y7))), (59, (.ite (gF y6) (.d (.sl 10 (p1.kids.map cGExpr))))), (58, (.ite (gF y6) (.ptr 3 8))), (57, (.ite (gF y6) (.d (.sl 10 (p0.kids.map cGExpr))))), (56, (.ite (gF y6) (.ptr 2 8)))]
   exact st 1 a9 (nx (bi (loop_go (s' := stsSameExpr_L0 p0 p1 0) (wr [] (es (es (es er_nil))) (bs_ (bs_ br_nil))) (OK_sSameExpr_L0 p0 p1 0 _ h))))
 · intro F_sSameExpr_L0 F_sSameQuery OK_sSameExpr_L0 OK_sSameQuery p0 p1 x5 r h
   delta acsSameExpr_L0
   refine loop_unroll (si (so ?_))
   let a10 : St := (stsSameExpr_L0 p0 p1 x5).p [(65, (.d (.sl 6 (p0.sub.map cGQuery)))), (64, (.ptr 2 9)), (63, (vI x5))]
   refine st 3 a10 (ps (vI (p0.sub.length : Int)) (vop_len (sz := 6) (l := p0.sub) (f := cGQuery) (by kernel_rfl) (by kernel_rfl)) ?_)
   let a11 : St := a10.p [(67, (vB (decide (x5 < (p0.sub.length : Int))))), (66, (vI (p0.sub.length : Int)))]
   refine st 1 a11 (nx ?_)
   refine cd h (fun h => ?_) fun h => ?_
   refine ki (xi (si (bi (si (dops_in ?_)))))
   let a12 : St := a11.p [(72, (vI x5)), (71, (.d (.sl 6 (p0.sub.map cGQuery)))), (70, (.ptr 2 9))]
   refine dsts_ok 3 (s' := a12) (by kernel_rfl) (dv_step (m := idx p0.sub x5) (v' := fun y => (.rp (oGQuery y))) h rfl rfl (fun y hy => vop_ia (l := p0.sub) (f := cGQuery) (g := oGQuery) (k := .i64) hy cGQuery_eq (by kernel_rfl) (by kernel_rfl) (by kernel_rfl)) ?_)
   clear h; intro y9 h
   let a13 : St := a12.p [(77, (vI x5)), (76, (.d (.sl 6 (p1.sub.map cGQuery)))), (75, (.ptr 3 9)), (74, (vGQuery y9)), (73, (.rp (oGQuery y9)))]
   refine dsts_ok 4 (s' := a13) (by kernel_rfl) (dv_step (m := idx p1.sub x5) (v' := fun y => (.rp (oGQuery y))) h rfl rfl (fun y hy => vop_ia (l := p1.sub) (f := cGQuery) (g := oGQuery) (k := .i64) hy cGQuery_eq (by kernel_rfl) (by kernel_rfl) (by kernel_rfl)) ?_)
   clear h; intro y10 h
   let a14 : St := a13.p [(79, (vGQuery y10)), (78, (.rp (oGQuery y10)))]
   refine dsts_ok 1 (s' := a14) (by kernel_rfl) (dcall_step (m := F_sSameQuery y9 y10) (args := [(vGQuery y9), (vGQuery y10)]) (v' := (fun y => (vB y))) h (OK_sSameQuery y9 y10) (by kernel_rfl) (by kernel_rfl) (fun _ => rfl) ?_)
   clear h; intro y11 h
   let a15 : St := a14.p [(81, (vB (!y11))), (80, (vB y11))]
   refine dsts_ok 1 (s' := a15) (by kernel_rfl) (dnil_in (by kernel_rfl) (by kernel_rfl) (xi ?_))
   refine cd h (fun h => ?_) fun h => ?_
   refine so ?_
   let a16 : St := a15.p [(4, (vB false))]
   refine st 1 a16 (nx (ri (br (tr (tr (br (tr ?_)))))))
   injection h with h; subst h
   exact ret1_step (v := (vB false)) (by kernel_rfl) (by kernel_rfl) (by kernel_rfl)
   refine ki (bn (xi (oi ?_)))
   let a17 : St := a15.p [(5, (vI (IntKind.wrap .i64 (x5 + 1)))), (69, (vI (IntKind.wrap .i64 (x5 + 1)))), (68, (vI x5))]
   exact st 3 a17 (ni (loop_back (s' := stsSameExpr_L0 p0 p1 (IntKind.wrap .i64 (x5 + 1))) (wr [] (es (es (es er_nil))) (bs_ (bs_ br_nil))) (OK_sSameExpr_L0 p0 p1 (IntKind.wrap .i64 (x5 + 1)) _ h)))
   refine ei (te (te (bh (xi (so ?_)))))
   let a18 : St := a11.p [(4, (vB true))]
   refine st 1 a18 (nx (ri ?_))
   injection h with h; subst h
   exact ret1_step (v := (vB true)) (by kernel_rfl) (by kernel_rfl) (by kernel_rfl)
 · intro F_sSameQuery_L0 F_sL7Same OK_sSameQuery_L0 OK_sL7Same p0 p1 r h
   refine acalls_of_fn trsSameQuery (Nat.le_of_ble_eq_true rfl) (by simp) ?_
   show avc Try.prog acsSameQuery (qsSameQuery _) ⟨[(0, (vGQuery p0)), (1, (vGQuery p1))], []⟩
   delta acsSameQuery
   refine so ?_
   let a0 : St := ⟨[(4, (vB false)), (3, (.ptr 3 0)), (2, (.ptr 2 0)), (0, (vGQuery p0)), (1, (vGQuery p1))], [(3, bGQuery p1), (2, bGQuery p0)]⟩
   refine st 3 a0 (nx (si (so ?_)))
   let a1 : St := a0.p [(17, (vB (!(p0.distinct == p1.distinct)))), (16, (vB (!(p0.distinct == p1.distinct)))), (15, (vB p1.distinct)), (14, (.ptr 3 0)), (13, (vB p0.distinct)), (12, (.ptr 2 0))]
   refine st 6 a1 (gp true (!(p0.distinct == p1.distinct)) (.ptr 2 5) (fun hc => vl) (gp true (!(p0.distinct == p1.distinct)) (vI p0.limit) (fun hc => vg hc) (gp true (!(p0.distinct == p1.distinct)) (.ptr 3 5) (fun hc => vl) (gp true (!(p0.distinct == p1.distinct)) (vI p1.limit) (fun hc => vg hc) ?_))))
   refine gp true (!(p0.distinct == p1.distinct)) (vB (!decide (p0.limit = p1.limit))) (fun hc => vop_val1 (Eq.trans (b := ([(true && ((!(p0.distinct == p1.distinct)) == false)), (true && ((!(p0.distinct == p1.distinct)) == false))] : List Bool).all id) (by kernel_rfl) (all_c hc (all_c hc rfl))) (by kernel_rfl)) ?_
   refine vs (fun (y : Bool) => (vB y)) h (fun y hy => vop_pickV hy (p := true) (q := (true && ((!(p0.distinct == p1.distinct)) == false))) (by kernel_rfl) (by kernel_rfl) (by kernel_rfl) (by kernel_rfl) (fun _ => rfl) (fun hb => gc_f rfl hb)) fun y1 h => ?_
   let a2 : St := a1.p [(24, (vB y1)), (23, (vB y1)), (22, (.ite (true && ((!(p0.distinct == p1.distinct)) == false)) (vB (!decide (p0.limit = p1.limit))))), (21, (.ite (true && ((!(p0.distinct == p1.distinct)) == false)) (vI p1.limit))), (20, (.ite (true && ((!(p0.distinct == p1.distinct)) == false)) (.ptr 3 5))), (19, (.ite (true && ((!(p0.distinct == p1.distinct)) == false)) (vI p0.limit))), (18, (.ite (true && ((!(p0.distinct == p1.distinct)) == false)) (.ptr 2 5)))]
   refine st 1 a2 (gp true y1 (.ptr 2 1) (fun hc => vl) (gp true y1 (.d (.sl 13 (p0.items.map cGItem))) (fun hc => vg hc) (gp true y1 (vI (p0.items.length : Int)) (fun hc => vop_len (sz := 13) (l := p0.items) (f := cGItem) (Eq.trans (b := ([(true && (y1 == false))] : List Bool).all id) (by kernel_rfl) (all_c hc rfl)) (by kernel_rfl)) (gp true y1 (.ptr 3 1) (fun hc => vl) ?_))))
   refine gp true y1 (.d (.sl 13 (p1.items.map cGItem))) (fun hc => vg hc) (gp true y1 (vI (p1.items.length : Int)) (fun hc => vop_len (sz := 13) (l := p1.items) (f := cGItem) (Eq.trans (b := ([(true && (y1 == false))] : List Bool).all id) (by kernel_rfl) (all_c hc rfl)) (by kernel_rfl)) ?_)
   refine gp true y1 (vB (!decide ((p0.items.length : Int) = (p1.items.length : Int)))) (fun hc => vop_val1 (Eq.trans (b := ([(true && (y1 == false)), (true && (y1 == false))] : List Bool).all id) (by kernel_rfl) (all_c hc (all_c hc rfl))) (by kernel_rfl)) ?_
   refine vs (fun (y : Bool) => (vB y)) h (fun y hy => vop_pickV hy (p := true) (q := (true && (y1 == false))) (by kernel_rfl) (by kernel_rfl) (by kernel_rfl) (by kernel_rfl) (fun _ => rfl) (fun hb => gc_f rfl hb)) fun y2 h => ?_
   let a3 : St := a2.p [(33, (vB y2)), (32, (vB y2)), (31, (.ite (gF y1) (vB (!decide ((p0.items.length : Int) = (p1.items.length : Int)))))), (30, (.ite (gF y1) (vI (p1.items.length : Int)))), (29, (.ite (gF y1) (.d (.sl 13 (p1.items.map cGItem))))), (28, (.ite (gF y1) (.ptr 3 1))), (27, (.ite (gF y1) (vI (p0.items.length : Int)))), (26, (.ite (gF y1) (.d (.sl 13 (p0.items.map cGItem))))), (25, (.ite (gF y1) (.ptr 2 1)))]
   refine st 1 a3 (gp true y2 (.ptr 2 2) (fun hc => vl) (gp true y2 (.d (.sl 3 (p0.from_.map cGSource))) (fun hc => vg hc) (gp true y2 (vI (p0.from_.length : Int)) (fun hc => vop_len (sz := 3) (l := p0.from_) (f := cGSource) (Eq.trans (b := ([(true && (y2 == false))] : List Bool).all id) (by kernel_rfl) (all_c hc rfl)) (by kernel_rfl)) (gp true y2 (.ptr 3 2) (fun hc => vl) ?_))))
   refine gp true y2 (.d (.sl 3 (p1.from_.map cGSource))) (fun hc => vg hc) (gp true y2 (vI (p1.from_.length : Int)) (fun hc => vop_len (sz := 3) (l := p1.from_) (f := cGSource) (Eq.trans (b := ([(true && (y2 == false))] : List Bool).all id) (by kernel_rfl) (all_c hc rfl)) (by kernel_rfl)) ?_)
   refine gp true y2 (vB (!decide ((p0.from_.length : Int) = (p1.from_.length : Int)))) (fun hc => vop_val1 (Eq.trans (b := ([(true && (y2 == false)), (true && (y2 == false))] : List Bool).all id) (by kernel_rfl) (all_c hc (all_c hc rfl))) (by kernel_rfl)) ?_
   refine vs (fun (y : Bool) => (vB y)) h (fun y hy => vop_pickV hy (p := true) (q := (true && (y2 == false))) (by kernel_rfl) (by kernel_rfl) (by kernel_rfl) (by kernel_rfl) (fun _ => rfl) (fun hb => gc_f rfl hb)) fun y3 h => ?_
   let a4 : St := a3.p [(42, (vB y3)), (41, (vB y3)), (40, (.ite (gF y2) (vB (!decide ((p0.from_.length : Int) = (p1.from_.length : Int)))))), (39, (.ite (gF y2) (vI (p1.from_.length : Int)))), (38, (.ite (gF y2) (.d (.sl 3 (p1.from_.map cGSource))))), (37, (.ite (gF y2) (.ptr 3 2))), (36, (.ite (gF y2) (vI (p0.from_.length : Int)))), (35, (.ite (gF y2) (.d (.sl 3 (p0.from_.map cGSource))))), (34, (.ite (gF y2) (.ptr 2 2)))]
   refine st 1 a4 (gp true y3 (.ptr 2 4) (fun hc => vl) (gp true y3 (.d (.sl 11 (p0.order.map cGSortKey))) (fun hc => vg hc) (gp true y3 (vI (p0.order.length : Int)) (fun hc => vop_len (sz := 11) (l := p0.order) (f := cGSortKey) (Eq.trans (b := ([(true && (y3 == false))] : List Bool).all id) (by kernel_rfl) (all_c hc rfl)) (by kernel_rfl)) (gp true y3 (.ptr 3 4) (fun hc => vl) ?_))))
   refine gp true y3 (.d (.sl 11 (p1.order.map cGSortKey))) (fun hc => vg hc) (gp true y3 (vI (p1.order.length : Int)) (fun hc => vop_len (sz := 11) (l := p1.order) (f := cGSortKey) (Eq.trans (b := ([(true && (y3 == false))] : List Bool).all id) (by kernel_rfl) (all_c hc rfl)) (by kernel_rfl)) ?_)
   refine gp true y3 (vB (!decide ((p0.order.length : Int) = (p1.order.length : Int)))) (fun hc => vop_val1 (Eq.trans (b := ([(true && (y3 == false)), (true && (y3 == false))] : List Bool).all id) (by kernel_rfl) (all_c hc (all_c hc rfl))) (by kernel_rfl)) ?_
   refine vs (fun (y : Bool) => (vB y)) h (fun y hy => vop_pickV hy (p := true) (q := (true && (y3 == false))) (by kernel_rfl) (by kernel_rfl) (by kernel_rfl) (by kernel_rfl) (fun _ => rfl) (fun hb => gc_f rfl hb)) fun y4 h => ?_
   let a5 : St := a4.p [(51, (vB y4)), (50, (vB y4)), (49, (.ite (gF y3) (vB (!decide ((p0.order.length : Int) = (p1.order.length : Int)))))), (48, (.ite (gF y3) (vI (p1.order.length : Int)))), (47, (.ite (gF y3) (.d (.sl 11 (p1.order.map cGSortKey))))), (46, (.ite (gF y3) (.ptr 3 4))), (45, (.ite (gF y3) (vI (p0.order.length : Int)))), (44, (.ite (gF y3) (.d (.sl 11 (p0.order.map cGSortKey))))), (43, (.ite (gF y3) (.ptr 2 4)))]
   refine st 1 a5 (gp true y4 (.ptr 2 3) (fun hc => vl) (gp true y4 (.d (.sl 10 (p0.where_.map cGExpr))) (fun hc => vg hc) (gp true y4 (.ptr 3 3) (fun hc => vl) (gp true y4 (.d (.sl 10 (p1.where_.map cGExpr))) (fun hc => vg hc) ?_))))
   refine gcall_step (p := true) (b := y4) (m := F_sL7Same p0.where_ p1.where_) (dflt := default) (args := [(.d (.sl 10 (p0.where_.map cGExpr))), (.d (.sl 10 (p1.where_.map cGExpr)))]) (v' := (fun y => (vB y))) h (by kernel_rfl) (OK_sL7Same p0.where_ p1.where_) (fun hc => by kernel_rfl) (by kernel_rfl) (fun _ => rfl) (fun hc => (Eq.trans (b := ([(true && (y4 == false)), (true && (y4 == false))] : List Bool).all id) (by kernel_rfl) (all_c hc (all_c hc rfl)))) ?_
   clear h; intro y5 h
   refine gp true y4 (vB (!y5)) (fun hc => vg hc) (vs (fun (y : Bool) => (vB y)) h (fun y hy => vop_pickV hy (p := true) (q := (true && (y4 == false))) (by kernel_rfl) (by kernel_rfl) (by kernel_rfl) (by kernel_rfl) (fun _ => rfl) (fun hb => gc_f rfl hb)) fun y6 h => (nx ?_))
   refine cd h (fun h => ?_) fun h => ?_
   refine so ?_
   let a6 : St := a5.p [(4, (vB false)), (58, (vB y6)), (57, (.ite (gF y4) (vB (!y5)))), (56, (.ite (gF y4) (vB y5))), (55, (.ite (gF y4) (.d (.sl 10 (p1.where_.map cGExpr))))), (54, (.ite (gF y4) (.ptr 3 3))), (53, (.ite (gF y4) (.d (.sl 10 (p0.where_.map cGExpr))))), (52, (.ite (gF y4) (.ptr 2 3)))]
   refine st 1 a6 (nx (ri (tr ?_)))
   injection h with h; subst h
   exact ret1_step (v := (vB false)) (by kernel_rfl) (by kernel_rfl) (by kernel_rfl)
   refine ki (xi (si (so ?_)))
   let a7 : St := a5.p [(5, (vI 0)), (58, (vB y6)), (57, (.ite (gF y4) (vB (!y5)))), (56, (.ite (gF y4) (vB y5))), (55, (.ite (gF y4) (.d (.sl 10 (p1.where_.map cGExpr))))), (54, (.ite (gF y4) (.ptr 3 3))), (53, (.ite (gF y4) (.d (.sl 10 (p0.where_.map cGExpr))))), (52, (.ite (gF y4) (.ptr 2 3)))]
   exact st 1 a7 (nx (bi (loop_go (s' := stsSameQuery_L0 p0 p1 0) (wr [] (es (es (es er_nil))) (bs_ (bs_ br_nil))) (OK_sSameQuery_L0 p0 p1 0 _ h))))
 · intro F_sSameExpr F_sSameQuery_L0 F_sSameQuery_L1 OK_sSameExpr OK_sSameQuery_L0 OK_sSameQuery_L1 p0 p1 x5 r h
   delta acsSameQuery_L0
   refine loop_unroll (si (so ?_))
   let a8 : St := (stsSameQuery_L0 p0 p1 x5).p [(61, (.d (.sl 13 (p0.items.map cGItem)))), (60, (.ptr 2 1)), (59, (vI x5))]
   refine st 3 a8 (ps (vI (p0.items.length : Int)) (vop_len (sz := 13) (l := p0.items) (f := cGItem) (by kernel_rfl) (by kernel_rfl)) ?_)
   let a9 : St := a8.p [(63, (vB (decide (x5 < (p0.items.length : Int))))), (62, (vI (p0.items.length : Int)))]
   refine st 1 a9 (nx ?_)
   refine cd h (fun h => ?_) fun h => ?_
   refine ki (xi (si (bi (so ?_))))
   let a10 : St := a9.p [(68, (vI x5)), (67, (.d (.sl 13 (p0.items.map cGItem)))), (66, (.ptr 2 1))]
   refine st 3 a10 (vs (fun (y : GItem) => (.rp (oGItem y))) h (fun y hy => vop_ia (l := p0.items) (f := cGItem) (g := oGItem) (k := .i64) hy cGItem_eq (by kernel_rfl) (by kernel_rfl) (by kernel_rfl)) fun y7 h => ?_)
   let a11 : St := ⟨(6, (.ptr 6 0)) :: (70, (vGItem y7)) :: (69, (.rp (oGItem y7))) :: a10.env, [(6, bGItem y7), (2, bGQuery p0), (3, bGQuery p1)]⟩
   refine st 3 a11 (nx (so ?_))
   let a12 : St := a11.p [(73, (vI x5)), (72, (.d (.sl 13 (p1.items.map cGItem)))), (71, (.ptr 3 1))]
   refine st 3 a12 (vs (fun (y : GItem) => (.rp (oGItem y))) h (fun y hy => vop_ia (l := p1.items) (f := cGItem) (g := oGItem) (k := .i64) hy cGItem_eq (by kernel_rfl) (by kernel_rfl) (by kernel_rfl)) fun y8 h => ?_)
   let a13 : St := ⟨(7, (.ptr 7 0)) :: (75, (vGItem y8)) :: (74, (.rp (oGItem y8))) :: a12.env, [(7, bGItem y8), (6, bGItem y7), (2, bGQuery p0), (3, bGQuery p1)]⟩
   refine st 3 a13 (nx (so ?_))
   let a14 : St := a13.p [(81, (vB (!(y7.star == y8.star)))), (80, (vB (!(y7.star == y8.star)))), (79, (vB y8.star)), (78, (.ptr 7 0)), (77, (vB y7.star)), (76, (.ptr 6 0))]
   refine st 6 a14 (gp true (!(y7.star == y8.star)) (.ptr 6 1) (fun hc => vl) (gp true (!(y7.star == y8.star)) (vS y7.qual) (fun hc => vg hc) (gp true (!(y7.star == y8.star)) (.ptr 7 1) (fun hc => vl) (gp true (!(y7.star == y8.star)) (vS y8.qual) (fun hc => vg hc) ?_))))
   refine gp true (!(y7.star == y8.star)) (vB (!decide (y7.qual = y8.qual))) (fun hc => vop_val1 (Eq.trans (b := ([(true && ((!(y7.star == y8.star)) == false)), (true && ((!(y7.star == y8.star)) == false))] : List Bool).all id) (by kernel_rfl) (all_c hc (all_c hc rfl))) (by kernel_rfl)) ?_
   refine vs (fun (y : Bool) => (vB y)) h (fun y hy => vop_pickV hy (p := true) (q := (true && ((!(y7.star == y8.star)) == false))) (by kernel_rfl) (by kernel_rfl) (by kernel_rfl) (by kernel_rfl) (fun _ => rfl) (fun hb => gc_f rfl hb)) fun y9 h => ?_
   let a15 : St := a14.p [(88, (vB y9)), (87, (vB y9)), (86, (.ite (true && ((!(y7.star == y8.star)) == false)) (vB (!decide (y7.qual = y8.qual))))), (85, (.ite (true && ((!(y7.star == y8.star)) == false)) (vS y8.qual))), (84, (.ite (true && ((!(y7.star == y8.star)) == false)) (.ptr 7 1))), (83, (.ite (true && ((!(y7.star == y8.star)) == false)) (vS y7.qual))), (82, (.ite (true && ((!(y7.star == y8.star)) == false)) (.ptr 6 1)))]
   refine st 1 a15 (gp true y9 (.ptr 6 12) (fun hc => vl) (gp true y9 (vS y7.as_) (fun hc => vg hc) (gp true y9 (.ptr 7 12) (fun hc => vl) (gp true y9 (vS y8.as_) (fun hc => vg hc) (gp true y9 (vB (!decide (y7.as_ = y8.as_))) (fun hc => vop_val1 (Eq.trans (b := ([(true && (y9 == false)), (true && (y9 == false))] : List Bool).all id) (by kernel_rfl) (all_c hc (all_c hc rfl))) (by kernel_rfl)) ?_)))))
   refine vs (fun (y : Bool) => (vB y)) h (fun y hy => vop_pickV hy (p := true) (q := (true && (y9 == false))) (by kernel_rfl) (by kernel_rfl) (by kernel_rfl) (by kernel_rfl) (fun _ => rfl) (fun hb => gc_f rfl hb)) fun y10 h => ?_
   let a16 : St := a15.p [(95, (vB y10)), (94, (vB y10)), (93, (.ite (gF y9) (vB (!decide (y7.as_ = y8.as_))))), (92, (.ite (gF y9) (vS y8.as_))), (91, (.ite (gF y9) (.ptr 7 12))), (90, (.ite (gF y9) (vS y7.as_))), (89, (.ite (gF y9) (.ptr 6 12)))]
   refine st 1 a16 (gp true y10 (.ptr 6 2) (fun hc => vl) (gp true y10 (vGExpr y7.expr) (fun hc => vg hc) (gp true y10 (.ptr 7 2) (fun hc => vl) (gp true y10 (vGExpr y8.expr) (fun hc => vg hc) ?_))))
   refine gcall_step (p := true) (b := y10) (m := F_sSameExpr y7.expr y8.expr) (dflt := default) (args := [(vGExpr y7.expr), (vGExpr y8.expr)]) (v' := (fun y => (vB y))) h (by kernel_rfl) (OK_sSameExpr y7.expr y8.expr) (fun hc => by kernel_rfl) (by kernel_rfl) (fun _ => rfl) (fun hc => (Eq.trans (b := ([(true && (y10 == false)), (true && (y10 == false))] : List Bool).all id) (by kernel_rfl) (all_c hc (all_c hc rfl)))) ?_
   clear h; intro y11 h
   refine gp true y10 (vB (!y11)) (fun hc => vg hc) (vs (fun (y : Bool) => (vB y)) h (fun y hy => vop_pickV hy (p := true) (q := (true && (y10 == false))) (by kernel_rfl) (by kernel_rfl) (by kernel_rfl) (by kernel_rfl) (fun _ => rfl) (fun hb => gc_f rfl hb)) fun y12 h => (nx ?_))
   refine cd h (fun h => ?_) fun h => ?_
   refine so ?_
   let a17 : St := a16.p [(4, (vB false)), (102, (vB y12)), (101, (.ite (gF y10) (vB (!y11)))), (100, (.ite (gF y10) (vB y11))), (99, (.ite (gF y10) (vGExpr y8.expr))), (98, (.ite (gF y10) (.ptr 7 2))), (97, (.ite (gF y10) (vGExpr y7.expr))), (96, (.ite (gF y10) (.ptr 6 2)))]
   refine st 1 a17 (nx (ri (br (tr (tr (br (tr ?_)))))))
   injection h with h; subst h
   exact ret1_step (v := (vB false)) (by kernel_rfl) (by kernel_rfl) (by kernel_rfl)
   refine ki (bn (xi (oi ?_)))
   let a18 : St := a16.p [(5, (vI (IntKind.wrap .i64 (x5 + 1)))), (65, (vI (IntKind.wrap .i64 (x5 + 1)))), (64, (vI x5)), (102, (vB y12)), (101, (.ite (gF y10) (vB (!y11)))), (100, (.ite (gF y10) (vB y11))), (99, (.ite (gF y10) (vGExpr y8.expr))), (98, (.ite (gF y10) (.ptr 7 2))), (97, (.ite (gF y10) (vGExpr y7.expr))), (96, (.ite (gF y10) (.ptr 6 2)))]
   exact st 3 a18 (ni (loop_back (s' := stsSameQuery_L0 p0 p1 (IntKind.wrap .i64 (x5 + 1))) (wr [] (es (es (es er_nil))) (bs_ (bs_ br_nil))) (OK_sSameQuery_L0 p0 p1 (IntKind.wrap .i64 (x5 + 1)) _ h)))
   refine ei (te (te (bh (xi (si (so ?_))))))
   let a19 : St := a9.p [(8, (vI 0))]
   exact st 1 a19 (nx (bi (loop_go (s' := stsSameQuery_L1 p0 p1 0) (wr [] (es (es (es er_nil))) (bs_ (bs_ br_nil))) (OK_sSameQuery_L1 p0 p1 0 _ h))))
 · intro F_sSameQuery_L2 F_sSameQuery_L1 F_sL7Same OK_sSameQuery_L2 OK_sSameQuery_L1 OK_sL7Same p0 p1 x8 r h
   delta acsSameQuery_L1
   refine loop_unroll (si (so ?_))
   let a20 : St := (stsSameQuery_L1 p0 p1 x8).p [(105, (.d (.sl 3 (p0.from_.map cGSource)))), (104, (.ptr 2 2)), (103, (vI x8))]
   refine st 3 a20 (ps (vI (p0.from_.length : Int)) (vop_len (sz := 3) (l := p0.from_) (f := cGSource) (by kernel_rfl) (by kernel_rfl)) ?_)
   let a21 : St := a20.p [(107, (vB (decide (x8 < (p0.from_.length : Int))))), (106, (vI (p0.from_.length : Int)))]
   refine st 1 a21 (nx ?_)
   refine cd h (fun h => ?_) fun h => ?_
   refine ki (xi (si (bi (so ?_))))
   let a22 : St := a21.p [(112, (vI x8)), (111, (.d (.sl 3 (p0.from_.map cGSource)))), (110, (.ptr 2 2))]
   refine st 3 a22 (vs (fun (y : GSource) => (.rp (oGSource y))) h (fun y hy => vop_ia (l := p0.from_) (f := cGSource) (g := oGSource) (k := .i64) hy cGSource_eq (by kernel_rfl) (by kernel_rfl) (by kernel_rfl)) fun y13 h => ?_)
   let a23 : St := ⟨(9, (.ptr 9 0)) :: (114, (vGSource y13)) :: (113, (.rp (oGSource y13))) :: a22.env, [(9, bGSource y13), (2, bGQuery p0), (3, bGQuery p1)]⟩
   refine st 3 a23 (nx (so ?_))
   let a24 : St := a23.p [(117, (vI x8)), (116, (.d (.sl 3 (p1.from_.map cGSource)))), (115, (.ptr 3 2))]
   refine st 3 a24 (vs (fun (y : GSource) => (.rp (oGSource y))) h (fun y hy => vop_ia (l := p1.from_) (f := cGSource) (g := oGSource) (k := .i64) hy cGSource_eq (by kernel_rfl) (by kernel_rfl) (by kernel_rfl)) fun y14 h => ?_)
   let a25 : St := ⟨(10, (.ptr 10 0)) :: (119, (vGSource y14)) :: (118, (.rp (oGSource y14))) :: a24.env, [(10, bGSource y14), (9, bGSource y13), (2, bGQuery p0), (3, bGQuery p1)]⟩
   refine st 3 a25 (nx (so ?_))
   let a26 : St := a25.p [(125, (vB (!decide (y13.table = y14.table)))), (124, (vB (!decide (y13.table = y14.table)))), (123, (vS y14.table)), (122, (.ptr 10 0)), (121, (vS y13.table)), (120, (.ptr 9 0))]
   refine st 6 a26 (gp true (!decide (y13.table = y14.table)) (.ptr 9 1) (fun hc => vl) (gp true (!decide (y13.table = y14.table)) (vS y13.as_) (fun hc => vg hc) (gp true (!decide (y13.table = y14.table)) (.ptr 10 1) (fun hc => vl) (gp true (!decide (y13.table = y14.table)) (vS y14.as_) (fun hc => vg hc) ?_))))
   refine gp true (!decide (y13.table = y14.table)) (vB (!decide (y13.as_ = y14.as_))) (fun hc => vop_val1 (Eq.trans (b := ([(true && ((!decide (y13.table = y14.table)) == false)), (true && ((!decide (y13.table = y14.table)) == false))] : List Bool).all id) (by kernel_rfl) (all_c hc (all_c hc rfl))) (by kernel_rfl)) ?_
   refine vs (fun (y : Bool) => (vB y)) h (fun y hy => vop_pickV hy (p := true) (q := (true && ((!decide (y13.table = y14.table)) == false))) (by kernel_rfl) (by kernel_rfl) (by kernel_rfl) (by kernel_rfl) (fun _ => rfl) (fun hb => gc_f rfl hb)) fun y15 h => ?_
   let a27 : St := a26.p [(132, (vB y15)), (131, (vB y15)), (130, (.ite (true && ((!decide (y13.table = y14.table)) == false)) (vB (!decide (y13.as_ = y14.as_))))), (129, (.ite (true && ((!decide (y13.table = y14.table)) == false)) (vS y14.as_))), (128, (.ite (true && ((!decide (y13.table = y14.table)) == false)) (.ptr 10 1))), (127, (.ite (true && ((!decide (y13.table = y14.table)) == false)) (vS y13.as_))), (126, (.ite (true && ((!decide (y13.table = y14.table)) == false)) (.ptr 9 1)))]
   refine st 1 a27 (gp true y15 (.ptr 9 2) (fun hc => vl) (gp true y15 (.d (.sl 10 (y13.on_.map cGExpr))) (fun hc => vg hc) (gp true y15 (.ptr 10 2) (fun hc => vl) (gp true y15 (.d (.sl 10 (y14.on_.map cGExpr))) (fun hc => vg hc) ?_))))
   refine gcall_step (p := true) (b := y15) (m := F_sL7Same y13.on_ y14.on_) (dflt := default) (args := [(.d (.sl 10 (y13.on_.map cGExpr))), (.d (.sl 10 (y14.on_.map cGExpr)))]) (v' := (fun y => (vB y))) h (by kernel_rfl) (OK_sL7Same y13.on_ y14.on_) (fun hc => by kernel_rfl) (by kernel_rfl) (fun _ => rfl) (fun hc => (Eq.trans (b := ([(true && (y15 == false)), (true && (y15 == false))] : List Bool).all id) (by kernel_rfl) (all_c hc (all_c hc rfl)))) ?_
   clear h; intro y16 h
   refine gp true y15 (vB (!y16)) (fun hc => vg hc) (vs (fun (y : Bool) => (vB y)) h (fun y hy => vop_pickV hy (p := true) (q := (true && (y15 == false))) (by kernel_rfl) (by kernel_rfl) (by kernel_rfl) (by kernel_rfl) (fun _ => rfl) (fun hb => gc_f rfl hb)) fun y17 h => (nx ?_))
   refine cd h (fun h => ?_) fun h => ?_
   refine so ?_
   let a28 : St := a27.p [(4, (vB false)), (139, (vB y17)), (138, (.ite (gF y15) (vB (!y16)))), (137, (.ite (gF y15) (vB y16))), (136, (.ite (gF y15) (.d (.sl 10 (y14.on_.map cGExpr))))), (135, (.ite (gF y15) (.ptr 10 2))), (134, (.ite (gF y15) (.d (.sl 10 (y13.on_.map cGExpr))))), (133, (.ite (gF y15) (.ptr 9 2)))]
   refine st 1 a28 (nx (ri (br (tr (tr (br (tr ?_)))))))
   injection h with h; subst h
   exact ret1_step (v := (vB false)) (by kernel_rfl) (by kernel_rfl) (by kernel_rfl)
   refine ki (bn (xi (oi ?_)))
   let a29 : St := a27.p [(8, (vI (IntKind.wrap .i64 (x8 + 1)))), (109, (vI (IntKind.wrap .i64 (x8 + 1)))), (108, (vI x8)), (139, (vB y17)), (138, (.ite (gF y15) (vB (!y16)))), (137, (.ite (gF y15) (vB y16))), (136, (.ite (gF y15) (.d (.sl 10 (y14.on_.map cGExpr))))), (135, (.ite (gF y15) (.ptr 10 2))), (134, (.ite (gF y15) (.d (.sl 10 (y13.on_.map cGExpr))))), (133, (.ite (gF y15) (.ptr 9 2)))]
   exact st 3 a29 (ni (loop_back (s' := stsSameQuery_L1 p0 p1 (IntKind.wrap .i64 (x8 + 1))) (wr [] (es (es (es er_nil))) (bs_ (bs_ br_nil))) (OK_sSameQuery_L1 p0 p1 (IntKind.wrap .i64 (x8 + 1)) _ h)))
   refine ei (te (te (bh (xi (si (so ?_))))))
   let a30 : St := a21.p [(11, (vI 0))]
   exact st 1 a30 (nx (bi (loop_go (s' := stsSameQuery_L2 p0 p1 0) (wr [] (es (es (es er_nil))) (bs_ (bs_ br_nil))) (OK_sSameQuery_L2 p0 p1 0 _ h))))
 · intro F_sL7Same_L0 OK_sL7Same_L0 p0 p1 r h
   refine acalls_of_fn trsL7Same (Nat.le_of_ble_eq_true rfl) (by simp) ?_
   show avc Try.prog acsL7Same (qsL7Same _) ⟨[(0, (.d (.sl 10 (p0.map cGExpr)))), (1, (.d (.sl 10 (p1.map cGExpr))))], []⟩
   delta acsL7Same
   refine so ?_
   let a0 : St := ⟨[(4, (vB false)), (0, (.d (.sl 10 (p0.map cGExpr)))), (1, (.d (.sl 10 (p1.map cGExpr))))], []⟩
   refine st 1 a0 (nx (si (so ?_)))
   let a1 : St := a0.p [(6, (.d (.sl 10 (p0.map cGExpr))))]
   refine st 1 a1 (ps (vI (p0.length : Int)) (vop_len (sz := 10) (l := p0) (f := cGExpr) (by kernel_rfl) (by kernel_rfl)) ?_)
   let a2 : St := a1.p [(8, (.d (.sl 10 (p1.map cGExpr)))), (7, (vI (p0.length : Int)))]
   refine st 1 a2 (ps (vI (p1.length : Int)) (vop_len (sz := 10) (l := p1) (f := cGExpr) (by kernel_rfl) (by kernel_rfl)) ?_)
   let a3 : St := a2.p [(10, (vB (!decide ((p0.length : Int) = (p1.length : Int))))), (9, (vI (p1.length : Int)))]
   refine st 1 a3 (nx ?_)
   refine cd h (fun h => ?_) fun h => ?_
   refine so ?_
   let a4 : St := a3.p [(4, (vB false))]
   refine st 1 a4 (nx (ri (tr ?_)))
   injection h with h; subst h
   exact ret1_step (v := (vB false)) (by kernel_rfl) (by kernel_rfl) (by kernel_rfl)
   refine ki (xi (si (so ?_)))
   let a5 : St := a3.p [(5, (vI 0))]
   exact st 1 a5 (nx (bi (loop_go (s' := stsL7Same_L0 p0 p1 0) (wr [] (es (es (es er_nil))) br_nil) (OK_sL7Same_L0 p0 p1 0 _ h))))
 · intro F_sSameExpr F_sL7Same_L0 OK_sSameExpr OK_sL7Same_L0 p0 p1 x5 r h
   delta acsL7Same_L0
   refine loop_unroll (si (so ?_))
   let a6 : St := (stsL7Same_L0 p0 p1 x5).p [(12, (.d (.sl 10 (p0.map cGExpr)))), (11, (vI x5))]
   refine st 2 a6 (ps (vI (p0.length : Int)) (vop_len (sz := 10) (l := p0) (f := cGExpr) (by kernel_rfl) (by kernel_rfl)) ?_)
   let a7 : St := a6.p [(14, (vB (decide (x5 < (p0.length : Int))))), (13, (vI (p0.length : Int)))]
   refine st 1 a7 (nx ?_)
   refine cd h (fun h => ?_) fun h => ?_
   refine ki (xi (si (bi (si (dops_in ?_)))))
   let a8 : St := a7.p [(18, (vI x5)), (17, (.d (.sl 10 (p0.map cGExpr))))]
   refine dsts_ok 2 (s' := a8) (by kernel_rfl) (dv_step (m := idx p0 x5) (v' := fun y => (.rp (oGExpr y))) h rfl rfl (fun y hy => vop_ia (l := p0) (f := cGExpr) (g := oGExpr) (k := .i64) hy cGExpr_eq (by kernel_rfl) (by kernel_rfl) (by kernel_rfl)) ?_)
   clear h; intro y1 h
   let a9 : St := a8.p [(22, (vI x5)), (21, (.d (.sl 10 (p1.map cGExpr)))), (20, (vGExpr y1)), (19, (.rp (oGExpr y1)))]
   refine dsts_ok 3 (s' := a9) (by kernel_rfl) (dv_step (m := idx p1 x5) (v' := fun y => (.rp (oGExpr y))) h rfl rfl (fun y hy => vop_ia (l := p1) (f := cGExpr) (g := oGExpr) (k := .i64) hy cGExpr_eq (by kernel_rfl) (by kernel_rfl) (by kernel_rfl)) ?_)
   clear h; intro y2 h
   let a10 : St := a9.p [(24, (vGExpr y2)), (23, (.rp (oGExpr y2)))]
   refine dsts_ok 1 (s' := a10) (by kernel_rfl) (dcall_step (m := F_sSameExpr y1 y2) (args := [(vGExpr y1), (vGExpr y2)]) (v' := (fun y => (vB y))) h (OK_sSameExpr y1 y2) (by kernel_rfl) (by kernel_rfl) (fun _ => rfl) ?_)
   clear h; intro y3 h
   let a11 : St := a10.p [(26, (vB (!y3))), (25, (vB y3))]
   refine dsts_ok 1 (s' := a11) (by kernel_rfl) (dnil_in (by kernel_rfl) (by kernel_rfl) (xi ?_))
   refine cd h (fun h => ?_) fun h => ?_
   refine so ?_
   let a12 : St := a11.p [(4, (vB false))]
   refine st 1 a12 (nx (ri (br (tr (tr (br (tr ?_)))))))
   injection h with h; subst h
   exact ret1_step (v := (vB false)) (by kernel_rfl) (by kernel_rfl) (by kernel_rfl)
   refine ki (bn (xi (oi ?_)))
   let a13 : St := a11.p [(5, (vI (IntKind.wrap .i64 (x5 + 1)))), (16, (vI (IntKind.wrap .i64 (x5 + 1)))), (15, (vI x5))]
   exact st 3 a13 (ni (loop_back (s' := stsL7Same_L0 p0 p1 (IntKind.wrap .i64 (x5 + 1))) (wr [] (es (es (es er_nil))) br_nil) (OK_sL7Same_L0 p0 p1 (IntKind.wrap .i64 (x5 + 1)) _ h)))
   refine ei (te (te (bh (xi (so ?_)))))
   let a14 : St := a7.p [(4, (vB true))]
   refine st 1 a14 (nx (ri ?_))
   injection h with h; subst h
   exact ret1_step (v := (vB true)) (by kernel_rfl) (by kernel_rfl) (by kernel_rfl)
theorem OK_sSameQuery_L2 (p0 : GQuery) (p1 : GQuery) (x11 : Int) (r : Bool) (h : sSameQuery_L2 p0 p1 x11 = some r) : avc Try.prog acsSameQuery_L2 (qsSameQuery_5 r) (stsSameQuery_L2 p0 p1 x11) := (OKs_sSameQuery_L2).1 p0 p1 x11 r h
theorem OK_sSameExpr (p0 : GExpr) (p1 : GExpr) : FOk Try.prog 154 [(vGExpr p0), (vGExpr p1)] (fun y => (vB y)) (sSameExpr p0 p1) := fun r h => (OKs_sSameQuery_L2).2.1 p0 p1 r h
theorem OK_sSameExpr_L0 (p0 : GExpr) (p1 : GExpr) (x5 : Int) (r : Bool) (h : sSameExpr_L0 p0 p1 x5 = some r) : avc Try.prog acsSameExpr_L0 (qsSameExpr_1 r) (stsSameExpr_L0 p0 p1 x5) := (OKs_sSameQuery_L2).2.2.1 p0 p1 x5 r h
theorem OK_sSameQuery (p0 : GQuery) (p1 : GQuery) : FOk Try.prog 190 [(vGQuery p0), (vGQuery p1)] (fun y => (vB y)) (sSameQuery p0 p1) := fun r h => (OKs_sSameQuery_L2).2.2.2.1 p0 p1 r h
theorem OK_sSameQuery_L0 (p0 : GQuery) (p1 : GQuery) (x5 : Int) (r : Bool) (h : sSameQuery_L0 p0 p1 x5 = some r) : avc Try.prog acsSameQuery_L0 (qsSameQuery_1 r) (stsSameQuery_L0 p0 p1 x5) := (OKs_sSameQuery_L2).2.2.2.2.1 p0 p1 x5 r h
theorem OK_sSameQuery_L1 (p0 : GQuery) (p1 : GQuery) (x8 : Int) (r : Bool) (h : sSameQuery_L1 p0 p1 x8 = some r) : avc Try.prog acsSameQuery_L1 (qsSameQuery_3 r) (stsSameQuery_L1 p0 p1 x8) := (OKs_sSameQuery_L2).2.2.2.2.2.1 p0 p1 x8 r h
theorem OK_sL7Same (p0 : (List GExpr)) (p1 : (List GExpr)) : FOk Try.prog 189 [(.d (.sl 10 (p0.map cGExpr))), (.d (.sl 10 (p1.map cGExpr)))] (fun y => (vB y)) (sL7Same p0 p1) := fun r h => (OKs_sSameQuery_L2).2.2.2.2.2.2.1 p0 p1 r h
theorem OK_sL7Same_L0 (p0 : (List GExpr)) (p1 : (List GExpr)) (x5 : Int) (r : Bool) (h : sL7Same_L0 p0 p1 x5 = some r) : avc Try.prog acsL7Same_L0 (qsL7Same_1 r) (stsL7Same_L0 p0 p1 x5) := (OKs_sSameQuery_L2).2.2.2.2.2.2.2 p0 p1 x5 r h
theorem OKs_sL7Right_L0 : (∀ (p0 : GExpr) (x3 : Int) (r : Bool), sL7Right_L0 p0 x3 = some r → avc Try.prog acsL7Right_L0 (qsL7Right_1 r) (stsL7Right_L0 p0 x3)) ∧ (∀ (p0 : GQuery) (r : Bool), sL7RightQuery p0 = some r → ACalls Try.prog 99 [(vGQuery p0)] [] fun x _ => x = (fun y => (vB y)) r) ∧ (∀ (p0 : GQuery) (x3 : Int) (r : Bool), sL7RightQuery_L0 p0 x3 = some r → avc Try.prog acsL7RightQuery_L0 (qsL7RightQuery_1 r) (stsL7RightQuery_L0 p0 x3)) ∧ (∀ (p0 : GQuery) (x5 : Int) (r : Bool), sL7RightQuery_L1 p0 x5 = some r → avc Try.prog acsL7RightQuery_L1 (qsL7RightQuery_3 r) (stsL7RightQuery_L1 p0 x5)) ∧ (∀ (y24 : (List GExpr)) (x8 : Int) (r : Bool), sL7RightQuery_L2 y24 x8 = some r → avc Try.prog acsL7RightQuery_L2 (qsL7RightQuery_5 r) (stsL7RightQuery_L2 y24 x8)) ∧ (∀ (p0 : GExpr) (r : Bool), sL7Right p0 = some r → ACalls Try.prog 84 [(vGExpr p0)] [] fun x _ => x = (fun y => (vB y)) r) := by
 refine sL7Right_L0.mutual_partial_correctness (fun p0 x3 r => avc Try.prog acsL7Right_L0 (qsL7Right_1 r) (stsL7Right_L0 p0 x3)) (fun p0 r => ACalls Try.prog 99 [(vGQuery p0)] [] fun x _ => x = (fun y => (vB y)) r) (fun p0 x3 r => avc Try.prog acsL7RightQuery_L0 (qsL7RightQuery_1 r) (stsL7RightQuery_L0 p0 x3)) (fun p0 x5 r => avc Try.prog acsL7RightQuery_L1 (qsL7RightQuery_3 r) (stsL7RightQuery_L1 p0 x5)) (fun y24 x8 r => avc Try.prog acsL7RightQuery_L2 (qsL7RightQuery_5 r) (stsL7RightQuery_L2 y24 x8)) (fun p0 r => ACalls Try.prog 84 [(vGExpr p0)] [] fun x _ => x = (fun y => (vB y)) r) ?_ ?_ ?_ ?_ ?_ ?_
 · intro F_sL7Right_L0 F_sL7RightQuery F_sL7Right OK_sL7Right_L0 OK_sL7RightQuery OK_sL7Right p0 x3 r h
   delta acsL7Right_L0
   refine loop_unroll (si (so ?_))
   let a5 : St := (stsL7Right_L0 p0 x3).p [(9, (.d (.sl 10 (p0.kids.map cGExpr)))), (8, (.ptr 1 8)), (7, (vI x3))]
   refine st 3 a5 (ps (vI (p0.kids.length : Int)) (vop_len (sz := 10) (l := p0.kids) (f := cGExpr) (by kernel_rfl) (by kernel_rfl)) ?_)
   let a6 : St := a5.p [(11, (vB (decide (x3 < (p0.kids.length : Int))))), (10, (vI (p0.kids.length : Int)))]
   refine st 1 a6 (nx ?_)
   refine cd h (fun h => ?_) fun h => ?_
   refine ki (xi (si (bi (so ?_))))
   let a7 : St := a6.p [(16, (vI x3)), (15, (.d (.sl 10 (p0.kids.map cGExpr)))), (14, (.ptr 1 8))]
   refine st 3 a7 (vs (fun (y : GExpr) => (.rp (oGExpr y))) h (fun y hy => vop_ia (l := p0.kids) (f := cGExpr) (g := oGExpr) (k := .i64) hy cGExpr_eq (by kernel_rfl) (by kernel_rfl) (by kernel_rfl)) fun y2 h => ?_)
   let a8 : St := a7.p [(18, (vGExpr y2)), (17, (.rp (oGExpr y2)))]
   refine st 1 a8 (cs h (OK_sL7Right y2) fun y3 h => ?_)
   let a9 : St := a8.p [(20, (vB (!y3))), (19, (vB y3))]
   refine st 1 a9 (nx ?_)
   refine cd h (fun h => ?_) fun h => ?_
   refine so ?_
   let a10 : St := a9.p [(2, (vB false))]
   refine st 1 a10 (nx (ri (br (tr (tr (br (tr ?_)))))))
   injection h with h; subst h
   exact ret1_step (v := (vB false)) (by kernel_rfl) (by kernel_rfl) (by kernel_rfl)
   refine ki (bn (xi (oi ?_)))
   let a11 : St := a9.p [(3, (vI (IntKind.wrap .i64 (x3 + 1)))), (13, (vI (IntKind.wrap .i64 (x3 + 1)))), (12, (vI x3))]
   exact st 3 a11 (ni (loop_back (s' := stsL7Right_L0 p0 (IntKind.wrap .i64 (x3 + 1))) (wr [] (es (es er_nil)) (bs_ br_nil)) (OK_sL7Right_L0 p0 (IntKind.wrap .i64 (x3 + 1)) _ h)))
   refine ei (te (te (bh (xi (so ?_)))))
   let a12 : St := a6.p [(22, (.d (.sl 6 (p0.sub.map cGQuery)))), (21, (.ptr 1 9))]
   refine st 2 a12 (ps (vI (p0.sub.length : Int)) (vop_len (sz := 6) (l := p0.sub) (f := cGQuery) (by kernel_rfl) (by kernel_rfl)) ?_)
   let a13 : St := a12.p [(25, (vB (decide ((p0.sub.length : Int) = 0)))), (24, (vB (decide ((p0.sub.length : Int) = 0)))), (23, (vI (p0.sub.length : Int)))]
   refine st 2 a13 (gp true (decide ((p0.sub.length : Int) = 0)) (.ptr 1 9) (fun hc => vl) (gp true (decide ((p0.sub.length : Int) = 0)) (.d (.sl 6 (p0.sub.map cGQuery))) (fun hc => vg hc) ?_))
   refine gv true (decide ((p0.sub.length : Int) = 0)) (fun (y : GQuery) => (.rp (oGQuery y))) h (fun y hy hc => vop_ia (l := p0.sub) (f := cGQuery) (g := oGQuery) (k := .i64) hy cGQuery_eq (Eq.trans (b := ([(true && ((decide ((p0.sub.length : Int) = 0)) == false))] : List Bool).all id) (by kernel_rfl) (all_c hc rfl)) (by kernel_rfl) (by kernel_rfl)) fun y4 h => ?_
   refine gp true (decide ((p0.sub.length : Int) = 0)) (vGQuery y4) (fun hc => vg hc) ?_
   refine gcall_step (p := true) (b := (decide ((p0.sub.length : Int) = 0))) (m := F_sL7RightQuery y4) (dflt := default) (args := [(vGQuery y4)]) (v' := (fun y => (vB y))) h (by kernel_rfl) (OK_sL7RightQuery y4) (fun hc => by kernel_rfl) (by kernel_rfl) (fun _ => rfl) (fun hc => (Eq.trans (b := ([(true && ((decide ((p0.sub.length : Int) = 0)) == false))] : List Bool).all id) (by kernel_rfl) (all_c hc rfl))) ?_
   clear h; intro y5 h
   refine vs (fun (y : Bool) => (vB y)) h (fun y hy => vop_pickV hy (p := true) (q := (true && ((decide ((p0.sub.length : Int) = 0)) == false))) (by kernel_rfl) (by kernel_rfl) (by kernel_rfl) (by kernel_rfl) (fun _ => rfl) (fun hb => gc_f rfl hb)) fun y6 h => ?_
   let a14 : St := a13.p [(2, (vB y6)), (31, (vB y6)), (30, (.ite (true && ((decide ((p0.sub.length : Int) = 0)) == false)) (vB y5))), (29, (.ite (true && ((decide ((p0.sub.length : Int) = 0)) == false)) (vGQuery y4))), (28, (.ite (true && ((decide ((p0.sub.length : Int) = 0)) == false)) (.rp (oGQuery y4)))), (27, (.ite (true && ((decide ((p0.sub.length : Int) = 0)) == false)) (.d (.sl 6 (p0.sub.map cGQuery))))), (26, (.ite (true && ((decide ((p0.sub.length : Int) = 0)) == false)) (.ptr 1 9)))]
   refine st 1 a14 (nx (ri ?_))
   injection h with h; subst h
   exact ret1_step (v := (vB y6)) (by kernel_rfl) (by kernel_rfl) (by kernel_rfl)
 · intro F_sL7RightQuery_L0 OK_sL7RightQuery_L0 p0 r h
   refine acalls_of_fn trsL7RightQuery (Nat.le_of_ble_eq_true rfl) (by simp) ?_
   show avc Try.prog acsL7RightQuery (qsL7RightQuery _) ⟨[(0, (vGQuery p0))], []⟩
   delta acsL7RightQuery
   refine so ?_
   let a0 : St := ⟨[(2, (vB false)), (1, (.ptr 1 0)), (0, (vGQuery p0))], [(1, bGQuery p0)]⟩
   refine st 2 a0 (nx (si (so ?_)))
   let a1 : St := a0.p [(10, (.d (.sl 13 (p0.items.map cGItem)))), (9, (.ptr 1 1))]
   refine st 2 a1 (ps (vI (p0.items.length : Int)) (vop_len (sz := 13) (l := p0.items) (f := cGItem) (by kernel_rfl) (by kernel_rfl)) (cs h (OK_sL1In (p0.items.length : Int) 1 12) fun y1 h => ?_))
   let a2 : St := a1.p [(14, (vB (!y1))), (13, (vB (!y1))), (12, (vB y1)), (11, (vI (p0.items.length : Int)))]
   refine st 2 a2 (gp true (!y1) (.ptr 1 2) (fun hc => vl) (gp true (!y1) (.d (.sl 3 (p0.from_.map cGSource))) (fun hc => vg hc) (gp true (!y1) (vI (p0.from_.length : Int)) (fun hc => vop_len (sz := 3) (l := p0.from_) (f := cGSource) (Eq.trans (b := ([(true && ((!y1) == false))] : List Bool).all id) (by kernel_rfl) (all_c hc rfl)) (by kernel_rfl)) ?_)))
   refine gcall_step (p := true) (b := (!y1)) (m := sL1In (p0.from_.length : Int) 1 3) (dflt := default) (args := [(vI (p0.from_.length : Int)), (vI 1), (vI 3)]) (v' := (fun y => (vB y))) h (by kernel_rfl) (OK_sL1In (p0.from_.length : Int) 1 3) (fun hc => by kernel_rfl) (by kernel_rfl) (fun _ => rfl) (fun hc => (Eq.trans (b := ([(true && ((!y1) == false))] : List Bool).all id) (by kernel_rfl) (all_c hc rfl))) ?_
   clear h; intro y2 h
   refine gp true (!y1) (vB (!y2)) (fun hc => vg hc) (vs (fun (y : Bool) => (vB y)) h (fun y hy => vop_pickV hy (p := true) (q := (true && ((!y1) == false))) (by kernel_rfl) (by kernel_rfl) (by kernel_rfl) (by kernel_rfl) (fun _ => rfl) (fun hb => gc_f rfl hb)) fun y3 h => ?_)
   let a3 : St := a2.p [(21, (vB y3)), (20, (vB y3)), (19, (.ite (true && ((!y1) == false)) (vB (!y2)))), (18, (.ite (true && ((!y1) == false)) (vB y2))), (17, (.ite (true && ((!y1) == false)) (vI (p0.from_.length : Int)))), (16, (.ite (true && ((!y1) == false)) (.d (.sl 3 (p0.from_.map cGSource))))), (15, (.ite (true && ((!y1) == false)) (.ptr 1 2)))]
   refine st 1 a3 (gp true y3 (.ptr 1 3) (fun hc => vl) (gp true y3 (.d (.sl 10 (p0.where_.map cGExpr))) (fun hc => vg hc) (gp true y3 (vI (p0.where_.length : Int)) (fun hc => vop_len (sz := 10) (l := p0.where_) (f := cGExpr) (Eq.trans (b := ([(true && (y3 == false))] : List Bool).all id) (by kernel_rfl) (all_c hc rfl)) (by kernel_rfl)) (gp true y3 (vB (decide (1 < (p0.where_.length : Int)))) (fun hc => vg hc) ?_))))
   refine vs (fun (y : Bool) => (vB y)) h (fun y hy => vop_pickV hy (p := true) (q := (true && (y3 == false))) (by kernel_rfl) (by kernel_rfl) (by kernel_rfl) (by kernel_rfl) (fun _ => rfl) (fun hb => gc_f rfl hb)) fun y4 h => ?_
   let a4 : St := a3.p [(27, (vB y4)), (26, (vB y4)), (25, (.ite (gF y3) (vB (decide (1 < (p0.where_.length : Int)))))), (24, (.ite (gF y3) (vI (p0.where_.length : Int)))), (23, (.ite (gF y3) (.d (.sl 10 (p0.where_.map cGExpr))))), (22, (.ite (gF y3) (.ptr 1 3)))]
   refine st 1 a4 (gp true y4 (.ptr 1 4) (fun hc => vl) (gp true y4 (.d (.sl 11 (p0.order.map cGSortKey))) (fun hc => vg hc) (gp true y4 (vI (p0.order.length : Int)) (fun hc => vop_len (sz := 11) (l := p0.order) (f := cGSortKey) (Eq.trans (b := ([(true && (y4 == false))] : List Bool).all id) (by kernel_rfl) (all_c hc rfl)) (by kernel_rfl)) (gp true y4 (vB (decide (12 < (p0.order.length : Int)))) (fun hc => vg hc) ?_))))
   refine vs (fun (y : Bool) => (vB y)) h (fun y hy => vop_pickV hy (p := true) (q := (true && (y4 == false))) (by kernel_rfl) (by kernel_rfl) (by kernel_rfl) (by kernel_rfl) (fun _ => rfl) (fun hb => gc_f rfl hb)) fun y5 h => ?_
   let a5 : St := a4.p [(33, (vB y5)), (32, (vB y5)), (31, (.ite (gF y4) (vB (decide (12 < (p0.order.length : Int)))))), (30, (.ite (gF y4) (vI (p0.order.length : Int)))), (29, (.ite (gF y4) (.d (.sl 11 (p0.order.map cGSortKey))))), (28, (.ite (gF y4) (.ptr 1 4)))]
   refine st 1 a5 (gp true y5 (.ptr 1 5) (fun hc => vl) (gp true y5 (vI p0.limit) (fun hc => vg hc) (gp true y5 (vB (decide (p0.limit < (-1)))) (fun hc => vg hc) (vs (fun (y : Bool) => (vB y)) h (fun y hy => vop_pickV hy (p := true) (q := (true && (y5 == false))) (by kernel_rfl) (by kernel_rfl) (by kernel_rfl) (by kernel_rfl) (fun _ => rfl) (fun hb => gc_f rfl hb)) fun y6 h => (nx ?_)))))
   refine cd h (fun h => ?_) fun h => ?_
   refine so ?_
   let a6 : St := a5.p [(2, (vB false)), (37, (vB y6)), (36, (.ite (gF y5) (vB (decide (p0.limit < (-1)))))), (35, (.ite (gF y5) (vI p0.limit))), (34, (.ite (gF y5) (.ptr 1 5)))]
   refine st 1 a6 (nx (ri (tr ?_)))
   injection h with h; subst h
   exact ret1_step (v := (vB false)) (by kernel_rfl) (by kernel_rfl) (by kernel_rfl)
   refine ki (xi (si (so ?_)))
   let a7 : St := a5.p [(3, (vI 0)), (37, (vB y6)), (36, (.ite (gF y5) (vB (decide (p0.limit < (-1)))))), (35, (.ite (gF y5) (vI p0.limit))), (34, (.ite (gF y5) (.ptr 1 5)))]
   exact st 1 a7 (nx (bi (loop_go (s' := stsL7RightQuery_L0 p0 0) (wr [] (es (es er_nil)) (bs_ br_nil)) (OK_sL7RightQuery_L0 p0 0 _ h))))
 · intro F_sL7RightQuery_L0 F_sL7RightQuery_L1 OK_sL7RightQuery_L0 OK_sL7RightQuery_L1 p0 x3 r h
   delta acsL7RightQuery_L0
   refine loop_unroll (si (so ?_))
   let a8 : St := (stsL7RightQuery_L0 p0 x3).p [(40, (.d (.sl 13 (p0.items.map cGItem)))), (39, (.ptr 1 1)), (38, (vI x3))]
   refine st 3 a8 (ps (vI (p0.items.length : Int)) (vop_len (sz := 13) (l := p0.items) (f := cGItem) (by kernel_rfl) (by kernel_rfl)) ?_)
   let a9 : St := a8.p [(42, (vB (decide (x3 < (p0.items.length : Int))))), (41, (vI (p0.items.length : Int)))]
   refine st 1 a9 (nx ?_)
   refine cd h (fun h => ?_) fun h => ?_
   refine ki (xi (si (bi (so ?_))))
   let a10 : St := a9.p [(47, (vI x3)), (46, (.d (.sl 13 (p0.items.map cGItem)))), (45, (.ptr 1 1))]
   refine st 3 a10 (vs (fun (y : GItem) => (.rp (oGItem y))) h (fun y hy => vop_ia (l := p0.items) (f := cGItem) (g := oGItem) (k := .i64) hy cGItem_eq (by kernel_rfl) (by kernel_rfl) (by kernel_rfl)) fun y7 h => ?_)
   let a11 : St := ⟨(4, (.ptr 4 0)) :: (49, (vGItem y7)) :: (48, (.rp (oGItem y7))) :: a10.env, [(4, bGItem y7), (1, bGQuery p0)]⟩
   refine st 3 a11 (nx (so ?_))
   let a12 : St := a11.p [(52, (vB y7.star)), (51, (vB y7.star)), (50, (.ptr 4 0))]
   refine st 3 a12 (gp true y7.star (.ptr 4 1) (fun hc => vl) (gp true y7.star (vS y7.qual) (fun hc => vg hc) ?_))
   refine gcall_step (p := true) (b := y7.star) (m := sL7Maybe y7.qual) (dflt := default) (args := [(vS y7.qual)]) (v' := (fun y => (vB y))) h (by kernel_rfl) (OK_sL7Maybe y7.qual) (fun hc => by kernel_rfl) (by kernel_rfl) (fun _ => rfl) (fun hc => (Eq.trans (b := ([(true && (y7.star == true))] : List Bool).all id) (by kernel_rfl) (all_c hc rfl))) ?_
   clear h; intro y8 h
   refine gp true y7.star (vB (!y8)) (fun hc => vg hc) (gp true y7.star (vB (!y8)) (fun hc => vg hc) (gp (true && (y7.star == true)) (!y8) (.ptr 4 12) (fun hc => vl) (gp (true && (y7.star == true)) (!y8) (vS y7.as_) (fun hc => vg hc) (gp (true && (y7.star == true)) (!y8) (vB (!decide (y7.as_ = []))) (fun hc => vg hc) ?_))))
   refine gv true y7.star (fun (y : Bool) => (vB y)) h (fun y hy hc => vop_pickV hy (p := true) (q := ((true && (y7.star == true)) && ((!y8) == false))) (Eq.trans (b := ([(true && (y7.star == true))] : List Bool).all id) (by kernel_rfl) (all_c hc rfl)) (by kernel_rfl) (by kernel_rfl) (by kernel_rfl) (fun _ => rfl) (fun hb => gc_f hc hb)) fun y9 h => (gp true y7.star (vB y9) (fun hc => vg hc) ?_)
   refine gp (true && (y7.star == true)) y9 (.ptr 4 2) (fun hc => vl) (gp (true && (y7.star == true)) y9 (vGExpr y7.expr) (fun hc => vg hc) (gp (true && (y7.star == true)) y9 (vGExpr (GExpr.mk 0 0 false (GValue.mk 0 0 []) [] [] ([] : List GExpr) ([] : List GQuery))) (fun hc => vl) ?_))
   refine gcall_step (p := (true && (y7.star == true))) (b := y9) (m := sSameExpr y7.expr (GExpr.mk 0 0 false (GValue.mk 0 0 []) [] [] ([] : List GExpr) ([] : List GQuery))) (dflt := default) (args := [(vGExpr y7.expr), (vGExpr (GExpr.mk 0 0 false (GValue.mk 0 0 []) [] [] ([] : List GExpr) ([] : List GQuery)))]) (v' := (fun y => (vB y))) h (by kernel_rfl) (OK_sSameExpr y7.expr (GExpr.mk 0 0 false (GValue.mk 0 0 []) [] [] ([] : List GExpr) ([] : List GQuery))) (fun hc => by kernel_rfl) (by kernel_rfl) (fun _ => rfl) (fun hc => (Eq.trans (b := ([((true && (y7.star == true)) && (y9 == false)), ((true && (y7.star == true)) && (y9 == false))] : List Bool).all id) (by kernel_rfl) (all_c hc (all_c hc rfl)))) ?_
   clear h; intro y10 h
   refine gp (true && (y7.star == true)) y9 (vB (!y10)) (fun hc => vg hc) ?_
   refine gv true y7.star (fun (y : Bool) => (vB y)) h (fun y hy hc => vop_pickV hy (p := true) (q := ((true && (y7.star == true)) && (y9 == false))) (Eq.trans (b := ([(true && (y7.star == true))] : List Bool).all id) (by kernel_rfl) (all_c hc rfl)) (by kernel_rfl) (by kernel_rfl) (by kernel_rfl) (fun _ => rfl) (fun hb => gc_f hc hb)) fun y11 h => ?_
   refine vs (fun (y : Bool) => (vB y)) h (fun y hy => vop_pickV hy (p := (true && (y7.star == true))) (q := true) (by kernel_rfl) (by kernel_rfl) (by kernel_rfl) (by kernel_rfl) (fun hb => gc_t rfl hb) (fun _ => rfl)) fun y12 h => ?_
   let a13 : St := a12.p [(70, (vB y12)), (69, (vB y12)), (68, (.ite (true && (y7.star == true)) (vB y11))), (67, (.ite ((true && (y7.star == true)) && (y9 == false)) (vB (!y10)))), (66, (.ite ((true && (y7.star == true)) && (y9 == false)) (vB y10))), (65, (.ite ((true && (y7.star == true)) && (y9 == false)) (vGExpr (GExpr.mk 0 0 false (GValue.mk 0 0 []) [] [] ([] : List GExpr) ([] : List GQuery))))), (64, (.ite ((true && (y7.star == true)) && (y9 == false)) (vGExpr y7.expr))), (63, (.ite ((true && (y7.star == true)) && (y9 == false)) (.ptr 4 2))), (62, (.ite (true && (y7.star == true)) (vB y9))), (61, (.ite (true && (y7.star == true)) (vB y9))), (60, (.ite ((true && (y7.star == true)) && ((!y8) == false)) (vB (!decide (y7.as_ = []))))), (59, (.ite ((true && (y7.star == true)) && ((!y8) == false)) (vS y7.as_))), (58, (.ite ((true && (y7.star == true)) && ((!y8) == false)) (.ptr 4 12))), (57, (.ite (true && (y7.star == true)) (vB (!y8)))), (56, (.ite (true && (y7.star == true)) (vB (!y8)))), (55, (.ite (true && (y7.star == true)) (vB y8))), (54, (.ite (true && (y7.star == true)) (vS y7.qual))), (53, (.ite (true && (y7.star == true)) (.ptr 4 1)))]
   refine st 1 a13 (gp true y12 (.ptr 4 0) (fun hc => vl) (gp true y12 (vB y7.star) (fun hc => vg hc) (gp true y12 (vB (!y7.star)) (fun hc => vg hc) (gp true y12 (vB (!y7.star)) (fun hc => vg hc) (gp (true && (y12 == false)) (!y7.star) (.ptr 4 1) (fun hc => vl) (gp (true && (y12 == false)) (!y7.star) (vS y7.qual) (fun hc => vg hc) (gp (true && (y12 == false)) (!y7.star) (vB (!decide (y7.qual = []))) (fun hc => vg hc) ?_)))))))
   refine gp (true && (y12 == false)) (!y7.star) (vB (!decide (y7.qual = []))) (fun hc => vg hc) (gp ((true && (y12 == false)) && ((!y7.star) == true)) (!decide (y7.qual = [])) (.ptr 4 12) (fun hc => vl) ?_)
   refine gp ((true && (y12 == false)) && ((!y7.star) == true)) (!decide (y7.qual = [])) (vS y7.as_) (fun hc => vop_val1 (Eq.trans (b := ([(((true && (y12 == false)) && ((!y7.star) == true)) && ((!decide (y7.qual = [])) == false))] : List Bool).all id) (by kernel_rfl) (all_c hc rfl)) (by kernel_rfl)) ?_
   refine gcall_step (p := ((true && (y12 == false)) && ((!y7.star) == true))) (b := (!decide (y7.qual = []))) (m := sL7Maybe y7.as_) (dflt := default) (args := [(vS y7.as_)]) (v' := (fun y => (vB y))) h (by kernel_rfl) (OK_sL7Maybe y7.as_) (fun hc => by kernel_rfl) (by kernel_rfl) (fun _ => rfl) (fun hc => (Eq.trans (b := ([(((true && (y12 == false)) && ((!y7.star) == true)) && ((!decide (y7.qual = [])) == false))] : List Bool).all id) (by kernel_rfl) (all_c hc rfl))) ?_
   clear h; intro y13 h
   refine gp ((true && (y12 == false)) && ((!y7.star) == true)) (!decide (y7.qual = [])) (vB (!y13)) (fun hc => vop_val1 (Eq.trans (b := ([(((true && (y12 == false)) && ((!y7.star) == true)) && ((!decide (y7.qual = [])) == false))] : List Bool).all id) (by kernel_rfl) (all_c hc rfl)) (by kernel_rfl)) ?_
   refine gv (true && (y12 == false)) (!y7.star) (fun (y : Bool) => (vB y)) h (fun y hy hc => vop_pickV hy (p := true) (q := (((true && (y12 == false)) && ((!y7.star) == true)) && ((!decide (y7.qual = [])) == false))) (Eq.trans (b := ([((true && (y12 == false)) && ((!y7.star) == true))] : List Bool).all id) (by kernel_rfl) (all_c hc rfl)) (by kernel_rfl) (by kernel_rfl) (by kernel_rfl) (fun _ => rfl) (fun hb => gc_f hc hb)) fun y14 h => ?_
   refine gv true y12 (fun (y : Bool) => (vB y)) h (fun y hy hc => vop_pickV hy (p := ((true && (y12 == false)) && ((!y7.star) == true))) (q := true) (Eq.trans (b := ([(true && (y12 == false))] : List Bool).all id) (by kernel_rfl) (all_c hc rfl)) (by kernel_rfl) (by kernel_rfl) (by kernel_rfl) (fun hb => gc_t hc hb) (fun _ => rfl)) fun y15 h => ?_
   refine vs (fun (y : Bool) => (vB y)) h (fun y hy => vop_pickV hy (p := true) (q := (true && (y12 == false))) (by kernel_rfl) (by kernel_rfl) (by kernel_rfl) (by kernel_rfl) (fun _ => rfl) (fun hb => gc_f rfl hb)) fun y16 h => (nx ?_)
   refine cd h (fun h => ?_) fun h => ?_
   refine so ?_
   let a14 : St := a13.p [(2, (vB false)), (85, (vB y16)), (84, (.ite (gF y12) (vB y15))), (83, (.ite ((gF y12) && ((!y7.star) == true)) (vB y14))), (82, (.ite (((gF y12) && ((!y7.star) == true)) && ((!decide (y7.qual = [])) == false)) (vB (!y13)))), (81, (.ite (((gF y12) && ((!y7.star) == true)) && ((!decide (y7.qual = [])) == false)) (vB y13))), (80, (.ite (((gF y12) && ((!y7.star) == true)) && ((!decide (y7.qual = [])) == false)) (vS y7.as_))), (79, (.ite (((gF y12) && ((!y7.star) == true)) && ((!decide (y7.qual = [])) == false)) (.ptr 4 12))), (78, (.ite ((gF y12) && ((!y7.star) == true)) (vB (!decide (y7.qual = []))))), (77, (.ite ((gF y12) && ((!y7.star) == true)) (vB (!decide (y7.qual = []))))), (76, (.ite ((gF y12) && ((!y7.star) == true)) (vS y7.qual))), (75, (.ite ((gF y12) && ((!y7.star) == true)) (.ptr 4 1))), (74, (.ite (gF y12) (vB (!y7.star)))), (73, (.ite (gF y12) (vB (!y7.star)))), (72, (.ite (gF y12) (vB y7.star))), (71, (.ite (gF y12) (.ptr 4 0)))]
   refine st 1 a14 (nx (ri (br (tr (tr (br (tr ?_)))))))
   injection h with h; subst h
   exact ret1_step (v := (vB false)) (by kernel_rfl) (by kernel_rfl) (by kernel_rfl)
   refine ki (bn (xi (oi ?_)))
   let a15 : St := a13.p [(3, (vI (IntKind.wrap .i64 (x3 + 1)))), (44, (vI (IntKind.wrap .i64 (x3 + 1)))), (43, (vI x3)), (85, (vB y16)), (84, (.ite (gF y12) (vB y15))), (83, (.ite ((gF y12) && ((!y7.star) == true)) (vB y14))), (82, (.ite (((gF y12) && ((!y7.star) == true)) && ((!decide (y7.qual = [])) == false)) (vB (!y13)))), (81, (.ite (((gF y12) && ((!y7.star) == true)) && ((!decide (y7.qual = [])) == false)) (vB y13))), (80, (.ite (((gF y12) && ((!y7.star) == true)) && ((!decide (y7.qual = [])) == false)) (vS y7.as_))), (79, (.ite (((gF y12) && ((!y7.star) == true)) && ((!decide (y7.qual = [])) == false)) (.ptr 4 12))), (78, (.ite ((gF y12) && ((!y7.star) == true)) (vB (!decide (y7.qual = []))))), (77, (.ite ((gF y12) && ((!y7.star) == true)) (vB (!decide (y7.qual = []))))), (76, (.ite ((gF y12) && ((!y7.star) == true)) (vS y7.qual))), (75, (.ite ((gF y12) && ((!y7.star) == true)) (.ptr 4 1))), (74, (.ite (gF y12) (vB (!y7.star)))), (73, (.ite (gF y12) (vB (!y7.star)))), (72, (.ite (gF y12) (vB y7.star))), (71, (.ite (gF y12) (.ptr 4 0)))]
   exact st 3 a15 (ni (loop_back (s' := stsL7RightQuery_L0 p0 (IntKind.wrap .i64 (x3 + 1))) (wr [] (es (es er_nil)) (bs_ br_nil)) (OK_sL7RightQuery_L0 p0 (IntKind.wrap .i64 (x3 + 1)) _ h)))
   refine ei (te (te (bh (xi (si (so ?_))))))
   let a16 : St := a9.p [(5, (vI 0))]
   exact st 1 a16 (nx (bi (loop_go (s' := stsL7RightQuery_L1 p0 0) (wr [] (es (es er_nil)) (bs_ br_nil)) (OK_sL7RightQuery_L1 p0 0 _ h))))
 · intro F_sL7RightQuery_L1 F_sL7RightQuery_L2 OK_sL7RightQuery_L1 OK_sL7RightQuery_L2 p0 x5 r h
   delta acsL7RightQuery_L1
   refine loop_unroll (si (so ?_))
   let a17 : St := (stsL7RightQuery_L1 p0 x5).p [(88, (.d (.sl 3 (p0.from_.map cGSource)))), (87, (.ptr 1 2)), (86, (vI x5))]
   refine st 3 a17 (ps (vI (p0.from_.length : Int)) (vop_len (sz := 3) (l := p0.from_) (f := cGSource) (by kernel_rfl) (by kernel_rfl)) ?_)
   let a18 : St := a17.p [(90, (vB (decide (x5 < (p0.from_.length : Int))))), (89, (vI (p0.from_.length : Int)))]
   refine st 1 a18 (nx ?_)
   refine cd h (fun h => ?_) fun h => ?_
   refine ki (xi (si (bi (so ?_))))
   let a19 : St := a18.p [(95, (vI x5)), (94, (.d (.sl 3 (p0.from_.map cGSource)))), (93, (.ptr 1 2))]
   refine st 3 a19 (vs (fun (y : GSource) => (.rp (oGSource y))) h (fun y hy => vop_ia (l := p0.from_) (f := cGSource) (g := oGSource) (k := .i64) hy cGSource_eq (by kernel_rfl) (by kernel_rfl) (by kernel_rfl)) fun y17 h => ?_)
   let a20 : St := ⟨(6, (.ptr 6 0)) :: (97, (vGSource y17)) :: (96, (.rp (oGSource y17))) :: a19.env, [(6, bGSource y17), (1, bGQuery p0)]⟩
   refine st 3 a20 (nx (so ?_))
   let a21 : St := a20.p [(99, (vS y17.table)), (98, (.ptr 6 0))]
   refine st 2 a21 (cs h (OK_sNameOk y17.table) fun y18 h => ?_)
   let a22 : St := a21.p [(102, (vB (!y18))), (101, (vB (!y18))), (100, (vB y18))]
   refine st 2 a22 (gp true (!y18) (.ptr 6 1) (fun hc => vl) (gp true (!y18) (vS y17.as_) (fun hc => vg hc) ?_))
   refine gcall_step (p := true) (b := (!y18)) (m := sL7Maybe y17.as_) (dflt := default) (args := [(vS y17.as_)]) (v' := (fun y => (vB y))) h (by kernel_rfl) (OK_sL7Maybe y17.as_) (fun hc => by kernel_rfl) (by kernel_rfl) (fun _ => rfl) (fun hc => (Eq.trans (b := ([(true && ((!y18) == false))] : List Bool).all id) (by kernel_rfl) (all_c hc rfl))) ?_
   clear h; intro y19 h
   refine gp true (!y18) (vB (!y19)) (fun hc => vg hc) (vs (fun (y : Bool) => (vB y)) h (fun y hy => vop_pickV hy (p := true) (q := (true && ((!y18) == false))) (by kernel_rfl) (by kernel_rfl) (by kernel_rfl) (by kernel_rfl) (fun _ => rfl) (fun hb => gc_f rfl hb)) fun y20 h => ?_)
   let a23 : St := a22.p [(108, (vB y20)), (107, (vB y20)), (106, (.ite (true && ((!y18) == false)) (vB (!y19)))), (105, (.ite (true && ((!y18) == false)) (vB y19))), (104, (.ite (true && ((!y18) == false)) (vS y17.as_))), (103, (.ite (true && ((!y18) == false)) (.ptr 6 1)))]
   refine st 1 a23 (gp true y20 (.ptr 6 2) (fun hc => vl) (gp true y20 (.d (.sl 10 (y17.on_.map cGExpr))) (fun hc => vg hc) (gp true y20 (vI (y17.on_.length : Int)) (fun hc => vop_len (sz := 10) (l := y17.on_) (f := cGExpr) (Eq.trans (b := ([(true && (y20 == false))] : List Bool).all id) (by kernel_rfl) (all_c hc rfl)) (by kernel_rfl)) (gp true y20 (vB (decide (1 < (y17.on_.length : Int)))) (fun hc => vg hc) ?_))))
   refine vs (fun (y : Bool) => (vB y)) h (fun y hy => vop_pickV hy (p := true) (q := (true && (y20 == false))) (by kernel_rfl) (by kernel_rfl) (by kernel_rfl) (by kernel_rfl) (fun _ => rfl) (fun hb => gc_f rfl hb)) fun y21 h => ?_
   let a24 : St := a23.p [(114, (vB y21)), (113, (vB y21)), (112, (.ite (gF y20) (vB (decide (1 < (y17.on_.length : Int)))))), (111, (.ite (gF y20) (vI (y17.on_.length : Int)))), (110, (.ite (gF y20) (.d (.sl 10 (y17.on_.map cGExpr))))), (109, (.ite (gF y20) (.ptr 6 2)))]
   refine st 1 a24 (gp true y21 (vI x5) (fun hc => vl) (gp true y21 (vB (decide (x5 = 0))) (fun hc => vg hc) (gp true y21 (vB (decide (x5 = 0))) (fun hc => vg hc) (gp (true && (y21 == false)) (decide (x5 = 0)) (.ptr 6 2) (fun hc => vl) (gp (true && (y21 == false)) (decide (x5 = 0)) (.d (.sl 10 (y17.on_.map cGExpr))) (fun hc => vg hc) ?_)))))
   refine gp (true && (y21 == false)) (decide (x5 = 0)) (vI (y17.on_.length : Int)) (fun hc => vop_len (sz := 10) (l := y17.on_) (f := cGExpr) (Eq.trans (b := ([((true && (y21 == false)) && ((decide (x5 = 0)) == true))] : List Bool).all id) (by kernel_rfl) (all_c hc rfl)) (by kernel_rfl)) (gp (true && (y21 == false)) (decide (x5 = 0)) (vB (decide (0 < (y17.on_.length : Int)))) (fun hc => vg hc) ?_)
   refine gv true y21 (fun (y : Bool) => (vB y)) h (fun y hy hc => vop_pickV hy (p := ((true && (y21 == false)) && ((decide (x5 = 0)) == true))) (q := true) (Eq.trans (b := ([(true && (y21 == false))] : List Bool).all id) (by kernel_rfl) (all_c hc rfl)) (by kernel_rfl) (by kernel_rfl) (by kernel_rfl) (fun hb => gc_t hc hb) (fun _ => rfl)) fun y22 h => ?_
   refine vs (fun (y : Bool) => (vB y)) h (fun y hy => vop_pickV hy (p := true) (q := (true && (y21 == false))) (by kernel_rfl) (by kernel_rfl) (by kernel_rfl) (by kernel_rfl) (fun _ => rfl) (fun hb => gc_f rfl hb)) fun y23 h => (nx ?_)
   refine cd h (fun h => ?_) fun h => ?_
   refine so ?_
   let a25 : St := a24.p [(2, (vB false)), (123, (vB y23)), (122, (.ite (gF y21) (vB y22))), (121, (.ite ((gF y21) && ((decide (x5 = 0)) == true)) (vB (decide (0 < (y17.on_.length : Int)))))), (120, (.ite ((gF y21) && ((decide (x5 = 0)) == true)) (vI (y17.on_.length : Int)))), (119, (.ite ((gF y21) && ((decide (x5 = 0)) == true)) (.d (.sl 10 (y17.on_.map cGExpr))))), (118, (.ite ((gF y21) && ((decide (x5 = 0)) == true)) (.ptr 6 2))), (117, (.ite (gF y21) (vB (decide (x5 = 0))))), (116, (.ite (gF y21) (vB (decide (x5 = 0))))), (115, (.ite (gF y21) (vI x5)))]
   refine st 1 a25 (nx (ri (br (tr (tr (br (tr ?_)))))))
   injection h with h; subst h
   exact ret1_step (v := (vB false)) (by kernel_rfl) (by kernel_rfl) (by kernel_rfl)
   refine ki (bn (xi (oi ?_)))
   let a26 : St := a24.p [(5, (vI (IntKind.wrap .i64 (x5 + 1)))), (92, (vI (IntKind.wrap .i64 (x5 + 1)))), (91, (vI x5)), (123, (vB y23)), (122, (.ite (gF y21) (vB y22))), (121, (.ite ((gF y21) && ((decide (x5 = 0)) == true)) (vB (decide (0 < (y17.on_.length : Int)))))), (120, (.ite ((gF y21) && ((decide (x5 = 0)) == true)) (vI (y17.on_.length : Int)))), (119, (.ite ((gF y21) && ((decide (x5 = 0)) == true)) (.d (.sl 10 (y17.on_.map cGExpr))))), (118, (.ite ((gF y21) && ((decide (x5 = 0)) == true)) (.ptr 6 2))), (117, (.ite (gF y21) (vB (decide (x5 = 0))))), (116, (.ite (gF y21) (vB (decide (x5 = 0))))), (115, (.ite (gF y21) (vI x5)))]
   exact st 3 a26 (ni (loop_back (s' := stsL7RightQuery_L1 p0 (IntKind.wrap .i64 (x5 + 1))) (wr [] (es (es er_nil)) (bs_ br_nil)) (OK_sL7RightQuery_L1 p0 (IntKind.wrap .i64 (x5 + 1)) _ h)))
   refine ei (te (te (bh (xi (so ?_)))))
   let a27 : St := a18.p [(124, (vGQuery p0))]
   refine st 1 a27 (callg_step ⟨[], [], [], [], [], [(2000000, 125)], [], [125]⟩ (m := sL7Exprs p0) (S' := fun (y : (List GExpr)) => ⟨(125, (.osl 125 49 10 (y.map cGExpr))) :: a27.env, a27.bx⟩) h (OK_sL7Exprs p0) (by kernel_rfl) (by kernel_rfl) (by kernel_rfl) (by kernel_rfl) (fun y => by kernel_rfl) (fun y => by kernel_rfl) ?_)
   clear h; intro y24 h
   let a28 : St := a27.p [(7, (.osl 7 49 10 (y24.map cGExpr))), (125, (.d (.sl 10 (y24.map cGExpr))))]
   refine st 1 a28 (nx (si (so ?_)))
   let a29 : St := a28.p [(8, (vI 0))]
   exact st 1 a29 (nx (bi (loop_go (s' := stsL7RightQuery_L2 y24 0) (wr [(7, .old 7)] (eo 7 (es er_nil)) br_nil) (OK_sL7RightQuery_L2 y24 0 _ h))))
 · intro F_sL7RightQuery_L2 F_sL7Right OK_sL7RightQuery_L2 OK_sL7Right y24 x8 r h
   delta acsL7RightQuery_L2
   refine loop_unroll (si (so ?_))
   let a30 : St := (stsL7RightQuery_L2 y24 x8).p [(127, (.osl 7 49 10 (y24.map cGExpr))), (126, (vI x8))]
   refine st 2 a30 (ps (vI (y24.length : Int)) (vop_len (sz := 10) (l := y24) (f := cGExpr) (by kernel_rfl) (by kernel_rfl)) ?_)
   let a31 : St := a30.p [(129, (vB (decide (x8 < (y24.length : Int))))), (128, (vI (y24.length : Int)))]
   refine st 1 a31 (nx ?_)
   refine cd h (fun h => ?_) fun h => ?_
   refine ki (xi (si (bi (so ?_))))
   let a32 : St := a31.p [(133, (vI x8)), (132, (.osl 7 49 10 (y24.map cGExpr)))]
   refine st 2 a32 (vs (fun (y : GExpr) => (.rp (oGExpr y))) h (fun y hy => vop_ia (l := y24) (f := cGExpr) (g := oGExpr) (k := .i64) hy cGExpr_eq (by kernel_rfl) (by kernel_rfl) (by kernel_rfl)) fun y25 h => ?_)
   let a33 : St := a32.p [(135, (vGExpr y25)), (134, (.rp (oGExpr y25)))]
   refine st 1 a33 (cs h (OK_sL7Right y25) fun y26 h => ?_)
   let a34 : St := a33.p [(137, (vB (!y26))), (136, (vB y26))]
   refine st 1 a34 (nx ?_)
   refine cd h (fun h => ?_) fun h => ?_
   refine so ?_
   let a35 : St := a34.p [(2, (vB false))]
   refine st 1 a35 (nx (ri (br (tr (tr (br (tr ?_)))))))
   injection h with h; subst h
   exact ret1_step (v := (vB false)) (by kernel_rfl) (by kernel_rfl) (by kernel_rfl)
   refine ki (bn (xi (oi ?_)))
   let a36 : St := a34.p [(8, (vI (IntKind.wrap .i64 (x8 + 1)))), (131, (vI (IntKind.wrap .i64 (x8 + 1)))), (130, (vI x8))]
   exact st 3 a36 (ni (loop_back (s' := stsL7RightQuery_L2 y24 (IntKind.wrap .i64 (x8 + 1))) (wr [(7, .old 7)] (eo 7 (es er_nil)) br_nil) (OK_sL7RightQuery_L2 y24 (IntKind.wrap .i64 (x8 + 1)) _ h)))
   refine ei (te (te (bh (xi (so ?_)))))
   let a37 : St := a31.p [(2, (vB true))]
   refine st 1 a37 (nx (ri ?_))
   injection h with h; subst h
   exact ret1_step (v := (vB true)) (by kernel_rfl) (by kernel_rfl) (by kernel_rfl)
 · intro F_sL7Right_L0 OK_sL7Right_L0 p0 r h
   refine acalls_of_fn trsL7Right (Nat.le_of_ble_eq_true rfl) (by simp) ?_
   show avc Try.prog acsL7Right (qsL7Right _) ⟨[(0, (vGExpr p0))], []⟩
   delta acsL7Right
   refine so ?_
   let a0 : St := ⟨[(2, (vB false)), (1, (.ptr 1 0)), (0, (vGExpr p0))], [(1, bGExpr p0)]⟩
   refine st 2 a0 (nx (si (so ?_)))
   let a1 : St := a0.p [(4, (vGExpr p0))]
   refine st 1 a1 (cs h (OK_sL7Shape p0) fun y1 h => ?_)
   let a2 : St := a1.p [(6, (vB (!y1))), (5, (vB y1))]
   refine st 1 a2 (nx ?_)
   refine cd h (fun h => ?_) fun h => ?_
   refine so ?_
   let a3 : St := a2.p [(2, (vB false))]
   refine st 1 a3 (nx (ri (tr ?_)))
   injection h with h; subst h
   exact ret1_step (v := (vB false)) (by kernel_rfl) (by kernel_rfl) (by kernel_rfl)
   refine ki (xi (si (so ?_)))
   let a4 : St := a2.p [(3, (vI 0))]
   exact st 1 a4 (nx (bi (loop_go (s' := stsL7Right_L0 p0 0) (wr [] (es (es er_nil)) (bs_ br_nil)) (OK_sL7Right_L0 p0 0 _ h))))
theorem OK_sL7Right_L0 (p0 : GExpr) (x3 : Int) (r : Bool) (h : sL7Right_L0 p0 x3 = some r) : avc Try.prog acsL7Right_L0 (qsL7Right_1 r) (stsL7Right_L0 p0 x3) := (OKs_sL7Right_L0).1 p0 x3 r h
theorem OK_sL7RightQuery (p0 : GQuery) : FOk Try.prog 99 [(vGQuery p0)] (fun y => (vB y)) (sL7RightQuery p0) := fun r h => (OKs_sL7Right_L0).2.1 p0 r h
theorem OK_sL7RightQuery_L0 (p0 : GQuery) (x3 : Int) (r : Bool) (h : sL7RightQuery_L0 p0 x3 = some r) : avc Try.prog acsL7RightQuery_L0 (qsL7RightQuery_1 r) (stsL7RightQuery_L0 p0 x3) := (OKs_sL7Right_L0).2.2.1 p0 x3 r h
theorem OK_sL7RightQuery_L1 (p0 : GQuery) (x5 : Int) (r : Bool) (h : sL7RightQuery_L1 p0 x5 = some r) : avc Try.prog acsL7RightQuery_L1 (qsL7RightQuery_3 r) (stsL7RightQuery_L1 p0 x5) := (OKs_sL7Right_L0).2.2.2.1 p0 x5 r h
theorem OK_sL7RightQuery_L2 (y24 : (List GExpr)) (x8 : Int) (r : Bool) (h : sL7RightQuery_L2 y24 x8 = some r) : avc Try.prog acsL7RightQuery_L2 (qsL7RightQuery_5 r) (stsL7RightQuery_L2 y24 x8) := (OKs_sL7Right_L0).2.2.2.2.1 y24 x8 r h
theorem OK_sL7Right (p0 : GExpr) : FOk Try.prog 84 [(vGExpr p0)] (fun y => (vB y)) (sL7Right p0) := fun r h => (OKs_sL7Right_L0).2.2.2.2.2 p0 r h
theorem OK_sL1Max (p0 : Int) (p1 : Int) : FOk Try.prog 59 [(vI p0), (vI p1)] (fun y => (vI y)) (sL1Max p0 p1) := by
 intro r h
 rw [sL1Max] at h
 refine acalls_of_fn trsL1Max (Nat.le_of_ble_eq_true rfl) (by simp) ?_
 show avc Try.prog acsL1Max (qsL1Max _) ⟨[(0, (vI p0)), (1, (vI p1))], []⟩
 delta acsL1Max
 refine so ?_
 let a0 : St := ⟨[(4, (vI 0)), (0, (vI p0)), (1, (vI p1))], []⟩
 refine st 1 a0 (nx (si (so ?_)))
 let a1 : St := a0.p [(7, (vB (decide (p1 < p0)))), (6, (vI p1)), (5, (vI p0))]
 refine st 3 a1 (nx ?_)
 refine cd h (fun h => ?_) fun h => ?_
 refine so ?_
 let a2 : St := a1.p [(4, (vI p0)), (8, (vI p0))]
 refine st 2 a2 (nx (ri (tr ?_)))
 injection h with h; subst h
 exact ret1_step (v := (vI p0)) (by kernel_rfl) (by kernel_rfl) (by kernel_rfl)
 refine ki (xi (so ?_))
 let a3 : St := a1.p [(4, (vI p1)), (9, (vI p1))]
 refine st 2 a3 (nx (ri ?_))
 injection h with h; subst h
 exact ret1_step (v := (vI p1)) (by kernel_rfl) (by kernel_rfl) (by kernel_rfl)
theorem OKs_sDepthOf_L1 : (∀ (p0 : GExpr) (x3_4 : Int) (x5 : Int) (r : Int), sDepthOf_L1 p0 x3_4 x5 = some r → avc Try.prog acsDepthOf_L1 (qsDepthOf_3 r) (stsDepthOf_L1 p0 x3_4 x5)) ∧ (∀ (p0 : GQuery) (r : Int), sQueryDepth p0 = some r → ACalls Try.prog 15 [(vGQuery p0)] [] fun x _ => x = (fun y => (vI y)) r) ∧ (∀ (y1 : (List GExpr)) (x3 : Int) (x5 : Int) (r : Int), sQueryDepth_L0 y1 x3 x5 = some r → avc Try.prog acsQueryDepth_L0 (qsQueryDepth_1 r) (stsQueryDepth_L0 y1 x3 x5)) ∧ (∀ (p0 : GExpr) (r : Int), sDepthOf p0 = some r → ACalls Try.prog 60 [(vGExpr p0)] [] fun x _ => x = (fun y => (vI y)) r) ∧ (∀ (p0 : GExpr) (x3 : Int) (x4 : Int) (r : Int), sDepthOf_L0 p0 x3 x4 = some r → avc Try.prog acsDepthOf_L0 (qsDepthOf_1 r) (stsDepthOf_L0 p0 x3 x4)) := by
 refine sDepthOf_L1.mutual_partial_correctness (fun p0 x3_4 x5 r => avc Try.prog acsDepthOf_L1 (qsDepthOf_3 r) (stsDepthOf_L1 p0 x3_4 x5)) (fun p0 r => ACalls Try.prog 15 [(vGQuery p0)] [] fun x _ => x = (fun y => (vI y)) r) (fun y1 x3 x5 r => avc Try.prog acsQueryDepth_L0 (qsQueryDepth_1 r) (stsQueryDepth_L0 y1 x3 x5)) (fun p0 r => ACalls Try.prog 60 [(vGExpr p0)] [] fun x _ => x = (fun y => (vI y)) r) (fun p0 x3 x4 r => avc Try.prog acsDepthOf_L0 (qsDepthOf_1 r) (stsDepthOf_L0 p0 x3 x4)) ?_ ?_ ?_ ?_ ?_
 · intro F_sDepthOf_L1 F_sQueryDepth OK_sDepthOf_L1 OK_sQueryDepth p0 x3_4 x5 r h
   delta acsDepthOf_L1
   refine loop_unroll (si (so ?_))
   let a10 : St := (stsDepthOf_L1 p0 x3_4 x5).p [(23, (.d (.sl 6 (p0.sub.map cGQuery)))), (22, (.ptr 1 9)), (21, (vI x5))]
   refine st 3 a10 (ps (vI (p0.sub.length : Int)) (vop_len (sz := 6) (l := p0.sub) (f := cGQuery) (by kernel_rfl) (by kernel_rfl)) ?_)
   let a11 : St := a10.p [(25, (vB (decide (x5 < (p0.sub.length : Int))))), (24, (vI (p0.sub.length : Int)))]
   refine st 1 a11 (nx ?_)
   refine cd h (fun h => ?_) fun h => ?_
   refine ki (xi (si (bi (oi ?_))))
   let a12 : St := a11.p [(31, (vI x5)), (30, (.d (.sl 6 (p0.sub.map cGQuery)))), (29, (.ptr 1 9)), (28, (vI x3_4))]
   refine st 4 a12 (vs (fun (y : GQuery) => (.rp (oGQuery y))) h (fun y hy => vop_ia (l := p0.sub) (f := cGQuery) (g := oGQuery) (k := .i64) hy cGQuery_eq (by kernel_rfl) (by kernel_rfl) (by kernel_rfl)) fun y5 h => ?_)
   let a13 : St := a12.p [(33, (vGQuery y5)), (32, (.rp (oGQuery y5)))]
   refine st 1 a13 (cs h (OK_sQueryDepth y5) fun y6 h => (cs h (OK_sL1Max x3_4 y6) fun y7 h => ?_))
   let a14 : St := a13.p [(3, (vI y7)), (35, (vI y7)), (34, (vI y6))]
   refine st 1 a14 (ni (bn (xi (oi ?_))))
   let a15 : St := a14.p [(5, (vI (IntKind.wrap .i64 (x5 + 1)))), (27, (vI (IntKind.wrap .i64 (x5 + 1)))), (26, (vI x5))]
   exact st 3 a15 (ni (loop_back (s' := stsDepthOf_L1 p0 y7 (IntKind.wrap .i64 (x5 + 1))) (wr [] (es (es (es er_nil))) (bs_ br_nil)) (OK_sDepthOf_L1 p0 y7 (IntKind.wrap .i64 (x5 + 1)) _ h)))
   refine ei (te (te (bh (xi (so ?_)))))
   let a16 : St := a11.p [(2, (vI (IntKind.wrap .i64 (x3_4 + 1)))), (37, (vI (IntKind.wrap .i64 (x3_4 + 1)))), (36, (vI x3_4))]
   refine st 3 a16 (nx (ri ?_))
   injection h with h; subst h
   exact ret1_step (v := (vI (IntKind.wrap .i64 (x3_4 + 1)))) (by kernel_rfl) (by kernel_rfl) (by kernel_rfl)
 · intro F_sQueryDepth_L0 OK_sQueryDepth_L0 p0 r h
   refine acalls_of_fn trsQueryDepth (Nat.le_of_ble_eq_true rfl) (by simp) ?_
   show avc Try.prog acsQueryDepth (qsQueryDepth _) ⟨[(0, (vGQuery p0))], []⟩
   delta acsQueryDepth
   refine so ?_
   let a0 : St := ⟨[(2, (vI 0)), (1, (.ptr 1 0)), (0, (vGQuery p0))], [(1, bGQuery p0)]⟩
   refine st 2 a0 (nx (so ?_))
   let a1 : St := a0.p [(3, (vI 0))]
   refine st 1 a1 (nx (so ?_))
   let a2 : St := a1.p [(6, (vGQuery p0))]
   refine st 1 a2 (callg_step ⟨[], [], [], [], [], [(2000000, 7)], [], [7]⟩ (m := sL7Exprs p0) (S' := fun (y : (List GExpr)) => ⟨(7, (.osl 7 49 10 (y.map cGExpr))) :: a2.env, a2.bx⟩) h (OK_sL7Exprs p0) (by kernel_rfl) (by kernel_rfl) (by kernel_rfl) (by kernel_rfl) (fun y => by kernel_rfl) (fun y => by kernel_rfl) ?_)
   clear h; intro y1 h
   let a3 : St := a2.p [(4, (.osl 4 49 10 (y1.map cGExpr))), (7, (.d (.sl 10 (y1.map cGExpr))))]
   refine st 1 a3 (nx (si (so ?_)))
   let a4 : St := a3.p [(5, (vI 0))]
   exact st 1 a4 (nx (bi (loop_go (s' := stsQueryDepth_L0 y1 0 0) (wr [(4, .old 4)] (es (eo 4 (es er_nil))) br_nil) (OK_sQueryDepth_L0 y1 0 0 _ h))))
 · intro F_sQueryDepth_L0 F_sDepthOf OK_sQueryDepth_L0 OK_sDepthOf y1 x3 x5 r h
   delta acsQueryDepth_L0
   refine loop_unroll (si (so ?_))
   let a5 : St := (stsQueryDepth_L0 y1 x3 x5).p [(9, (.osl 4 49 10 (y1.map cGExpr))), (8, (vI x5))]
   refine st 2 a5 (ps (vI (y1.length : Int)) (vop_len (sz := 10) (l := y1) (f := cGExpr) (by kernel_rfl) (by kernel_rfl)) ?_)
   let a6 : St := a5.p [(11, (vB (decide (x5 < (y1.length : Int))))), (10, (vI (y1.length : Int)))]
   refine st 1 a6 (nx ?_)
   refine cd h (fun h => ?_) fun h => ?_
   refine ki (xi (si (bi (oi ?_))))
   let a7 : St := a6.p [(16, (vI x5)), (15, (.osl 4 49 10 (y1.map cGExpr))), (14, (vI x3))]
   refine st 3 a7 (vs (fun (y : GExpr) => (.rp (oGExpr y))) h (fun y hy => vop_ia (l := y1) (f := cGExpr) (g := oGExpr) (k := .i64) hy cGExpr_eq (by kernel_rfl) (by kernel_rfl) (by kernel_rfl)) fun y2 h => ?_)
   let a8 : St := a7.p [(18, (vGExpr y2)), (17, (.rp (oGExpr y2)))]
   refine st 1 a8 (cs h (OK_sDepthOf y2) fun y3 h => (cs h (OK_sL1Max x3 y3) fun y4 h => ?_))
   let a9 : St := a8.p [(3, (vI y4)), (20, (vI y4)), (19, (vI y3))]
   refine st 1 a9 (ni (bn (xi (oi ?_))))
   let a10 : St := a9.p [(5, (vI (IntKind.wrap .i64 (x5 + 1)))), (13, (vI (IntKind.wrap .i64 (x5 + 1)))), (12, (vI x5))]
   exact st 3 a10 (ni (loop_back (s' := stsQueryDepth_L0 y1 y4 (IntKind.wrap .i64 (x5 + 1))) (wr [(4, .old 4)] (es (eo 4 (es er_nil))) br_nil) (OK_sQueryDepth_L0 y1 y4 (IntKind.wrap .i64 (x5 + 1)) _ h)))
   refine ei (te (te (bh (xi (so ?_)))))
   let a11 : St := a6.p [(2, (vI x3)), (21, (vI x3))]
   refine st 2 a11 (nx (ri ?_))
   injection h with h; subst h
   exact ret1_step (v := (vI x3)) (by kernel_rfl) (by kernel_rfl) (by kernel_rfl)
 · intro F_sDepthOf_L0 OK_sDepthOf_L0 p0 r h
   refine acalls_of_fn trsDepthOf (Nat.le_of_ble_eq_true rfl) (by simp) ?_
   show avc Try.prog acsDepthOf (qsDepthOf _) ⟨[(0, (vGExpr p0))], []⟩
   delta acsDepthOf
   refine so ?_
   let a0 : St := ⟨[(2, (vI 0)), (1, (.ptr 1 0)), (0, (vGExpr p0))], [(1, bGExpr p0)]⟩
   refine st 2 a0 (nx (so ?_))
   let a1 : St := a0.p [(3, (vI 0))]
   refine st 1 a1 (nx (si (so ?_)))
   let a2 : St := a1.p [(4, (vI 0))]
   exact st 1 a2 (nx (bi (loop_go (s' := stsDepthOf_L0 p0 0 0) (wr [] (es (es (es er_nil))) (bs_ br_nil)) (OK_sDepthOf_L0 p0 0 0 _ h))))
 · intro F_sDepthOf_L1 F_sDepthOf F_sDepthOf_L0 OK_sDepthOf_L1 OK_sDepthOf OK_sDepthOf_L0 p0 x3 x4 r h
   delta acsDepthOf_L0
   refine loop_unroll (si (so ?_))
   let a3 : St := (stsDepthOf_L0 p0 x3 x4).p [(8, (.d (.sl 10 (p0.kids.map cGExpr)))), (7, (.ptr 1 8)), (6, (vI x4))]
   refine st 3 a3 (ps (vI (p0.kids.length : Int)) (vop_len (sz := 10) (l := p0.kids) (f := cGExpr) (by kernel_rfl) (by kernel_rfl)) ?_)
   let a4 : St := a3.p [(10, (vB (decide (x4 < (p0.kids.length : Int))))), (9, (vI (p0.kids.length : Int)))]
   refine st 1 a4 (nx ?_)
   refine cd h (fun h => ?_) fun h => ?_
   refine ki (xi (si (bi (oi ?_))))
   let a5 : St := a4.p [(16, (vI x4)), (15, (.d (.sl 10 (p0.kids.map cGExpr)))), (14, (.ptr 1 8)), (13, (vI x3))]
   refine st 4 a5 (vs (fun (y : GExpr) => (.rp (oGExpr y))) h (fun y hy => vop_ia (l := p0.kids) (f := cGExpr) (g := oGExpr) (k := .i64) hy cGExpr_eq (by kernel_rfl) (by kernel_rfl) (by kernel_rfl)) fun y1 h => ?_)
   let a6 : St := a5.p [(18, (vGExpr y1)), (17, (.rp (oGExpr y1)))]
   refine st 1 a6 (cs h (OK_sDepthOf y1) fun y2 h => (cs h (OK_sL1Max x3 y2) fun y3 h => ?_))
   let a7 : St := a6.p [(3, (vI y3)), (20, (vI y3)), (19, (vI y2))]
   refine st 1 a7 (ni (bn (xi (oi ?_))))
   let a8 : St := a7.p [(4, (vI (IntKind.wrap .i64 (x4 + 1)))), (12, (vI (IntKind.wrap .i64 (x4 + 1)))), (11, (vI x4))]
   exact st 3 a8 (ni (loop_back (s' := stsDepthOf_L0 p0 y3 (IntKind.wrap .i64 (x4 + 1))) (wr [] (es (es (es er_nil))) (bs_ br_nil)) (OK_sDepthOf_L0 p0 y3 (IntKind.wrap .i64 (x4 + 1)) _ h)))
   refine ei (te (te (bh (xi (si (so ?_))))))
   let a9 : St := a4.p [(5, (vI 0))]
   exact st 1 a9 (nx (bi (loop_go (s' := stsDepthOf_L1 p0 x3 0) (wr [] (es (es (es er_nil))) (bs_ br_nil)) (OK_sDepthOf_L1 p0 x3 0 _ h))))
theorem OK_sDepthOf_L1 (p0 : GExpr) (x3_4 : Int) (x5 : Int) (r : Int) (h : sDepthOf_L1 p0 x3_4 x5 = some r) : avc Try.prog acsDepthOf_L1 (qsDepthOf_3 r) (stsDepthOf_L1 p0 x3_4 x5) := (OKs_sDepthOf_L1).1 p0 x3_4 x5 r h
theorem OK_sQueryDepth (p0 : GQuery) : FOk Try.prog 15 [(vGQuery p0)] (fun y => (vI y)) (sQueryDepth p0) := fun r h => (OKs_sDepthOf_L1).2.1 p0 r h
theorem OK_sQueryDepth_L0 (y1 : (List GExpr)) (x3 : Int) (x5 : Int) (r : Int) (h : sQueryDepth_L0 y1 x3 x5 = some r) : avc Try.prog acsQueryDepth_L0 (qsQueryDepth_1 r) (stsQueryDepth_L0 y1 x3 x5) := (OKs_sDepthOf_L1).2.2.1 y1 x3 x5 r h
theorem OK_sDepthOf (p0 : GExpr) : FOk Try.prog 60 [(vGExpr p0)] (fun y => (vI y)) (sDepthOf p0) := fun r h => (OKs_sDepthOf_L1).2.2.2.1 p0 r h
theorem OK_sDepthOf_L0 (p0 : GExpr) (x3 : Int) (x4 : Int) (r : Int) (h : sDepthOf_L0 p0 x3 x4 = some r) : avc Try.prog acsDepthOf_L0 (qsDepthOf_1 r) (stsDepthOf_L0 p0 x3 x4) := (OKs_sDepthOf_L1).2.2.2.2 p0 x3 x4 r h
theorem OKs_sSizeOf_L1 : (∀ (p0 : GExpr) (x3_3 : Int) (x5 : Int) (r : Int), sSizeOf_L1 p0 x3_3 x5 = some r → avc Try.prog acsSizeOf_L1 (qsSizeOf_3 r) (stsSizeOf_L1 p0 x3_3 x5)) ∧ (∀ (p0 : GQuery) (r : Int), sQuerySize p0 = some r → ACalls Try.prog 100 [(vGQuery p0)] [] fun x _ => x = (fun y => (vI y)) r) ∧ (∀ (y1 : (List GExpr)) (x3 : Int) (x5 : Int) (r : Int), sQuerySize_L0 y1 x3 x5 = some r → avc Try.prog acsQuerySize_L0 (qsQuerySize_1 r) (stsQuerySize_L0 y1 x3 x5)) ∧ (∀ (p0 : GExpr) (r : Int), sSizeOf p0 = some r → ACalls Try.prog 93 [(vGExpr p0)] [] fun x _ => x = (fun y => (vI y)) r) ∧ (∀ (p0 : GExpr) (x3 : Int) (x4 : Int) (r : Int), sSizeOf_L0 p0 x3 x4 = some r → avc Try.prog acsSizeOf_L0 (qsSizeOf_1 r) (stsSizeOf_L0 p0 x3 x4)) := by
 refine sSizeOf_L1.mutual_partial_correctness (fun p0 x3_3 x5 r => avc Try.prog acsSizeOf_L1 (qsSizeOf_3 r) (stsSizeOf_L1 p0 x3_3 x5)) (fun p0 r => ACalls Try.prog 100 [(vGQuery p0)] [] fun x _ => x = (fun y => (vI y)) r) (fun y1 x3 x5 r => avc Try.prog acsQuerySize_L0 (qsQuerySize_1 r) (stsQuerySize_L0 y1 x3 x5)) (fun p0 r => ACalls Try.prog 93 [(vGExpr p0)] [] fun x _ => x = (fun y => (vI y)) r) (fun p0 x3 x4 r => avc Try.prog acsSizeOf_L0 (qsSizeOf_1 r) (stsSizeOf_L0 p0 x3 x4)) ?_ ?_ ?_ ?_ ?_
 · intro F_sSizeOf_L1 F_sQuerySize OK_sSizeOf_L1 OK_sQuerySize p0 x3_3 x5 r h
   delta acsSizeOf_L1
   refine loop_unroll (si (so ?_))
   let a10 : St := (stsSizeOf_L1 p0 x3_3 x5).p [(23, (.d (.sl 6 (p0.sub.map cGQuery)))), (22, (.ptr 1 9)), (21, (vI x5))]
   refine st 3 a10 (ps (vI (p0.sub.length : Int)) (vop_len (sz := 6) (l := p0.sub) (f := cGQuery) (by kernel_rfl) (by kernel_rfl)) ?_)
   let a11 : St := a10.p [(25, (vB (decide (x5 < (p0.sub.length : Int))))), (24, (vI (p0.sub.length : Int)))]
   refine st 1 a11 (nx ?_)
   refine cd h (fun h => ?_) fun h => ?_
   refine ki (xi (si (bi (oi ?_))))
   let a12 : St := a11.p [(31, (vI x5)), (30, (.d (.sl 6 (p0.sub.map cGQuery)))), (29, (.ptr 1 9)), (28, (vI x3_3))]
   refine st 4 a12 (vs (fun (y : GQuery) => (.rp (oGQuery y))) h (fun y hy => vop_ia (l := p0.sub) (f := cGQuery) (g := oGQuery) (k := .i64) hy cGQuery_eq (by kernel_rfl) (by kernel_rfl) (by kernel_rfl)) fun y4 h => ?_)
   let a13 : St := a12.p [(33, (vGQuery y4)), (32, (.rp (oGQuery y4)))]
   refine st 1 a13 (cs h (OK_sQuerySize y4) fun y5 h => ?_)
   let a14 : St := a13.p [(3, (vI (IntKind.wrap .i64 (x3_3 + y5)))), (35, (vI (IntKind.wrap .i64 (x3_3 + y5)))), (34, (vI y5))]
   refine st 2 a14 (ni (bn (xi (oi ?_))))
   let a15 : St := a14.p [(5, (vI (IntKind.wrap .i64 (x5 + 1)))), (27, (vI (IntKind.wrap .i64 (x5 + 1)))), (26, (vI x5))]
   exact st 3 a15 (ni (loop_back (s' := stsSizeOf_L1 p0 (IntKind.wrap .i64 (x3_3 + y5)) (IntKind.wrap .i64 (x5 + 1))) (wr [] (es (es (es er_nil))) (bs_ br_nil)) (OK_sSizeOf_L1 p0 (IntKind.wrap .i64 (x3_3 + y5)) (IntKind.wrap .i64 (x5 + 1)) _ h)))
   refine ei (te (te (bh (xi (so ?_)))))
   let a16 : St := a11.p [(2, (vI x3_3)), (36, (vI x3_3))]
   refine st 2 a16 (nx (ri ?_))
   injection h with h; subst h
   exact ret1_step (v := (vI x3_3)) (by kernel_rfl) (by kernel_rfl) (by kernel_rfl)
 · intro F_sQuerySize_L0 OK_sQuerySize_L0 p0 r h
   refine acalls_of_fn trsQuerySize (Nat.le_of_ble_eq_true rfl) (by simp) ?_
   show avc Try.prog acsQuerySize (qsQuerySize _) ⟨[(0, (vGQuery p0))], []⟩
   delta acsQuerySize
   refine so ?_
   let a0 : St := ⟨[(2, (vI 0)), (1, (.ptr 1 0)), (0, (vGQuery p0))], [(1, bGQuery p0)]⟩
   refine st 2 a0 (nx (so ?_))
   let a1 : St := a0.p [(3, (vI 0))]
   refine st 1 a1 (nx (so ?_))
   let a2 : St := a1.p [(6, (vGQuery p0))]
   refine st 1 a2 (callg_step ⟨[], [], [], [], [], [(2000000, 7)], [], [7]⟩ (m := sL7Exprs p0) (S' := fun (y : (List GExpr)) => ⟨(7, (.osl 7 49 10 (y.map cGExpr))) :: a2.env, a2.bx⟩) h (OK_sL7Exprs p0) (by kernel_rfl) (by kernel_rfl) (by kernel_rfl) (by kernel_rfl) (fun y => by kernel_rfl) (fun y => by kernel_rfl) ?_)
   clear h; intro y1 h
   let a3 : St := a2.p [(4, (.osl 4 49 10 (y1.map cGExpr))), (7, (.d (.sl 10 (y1.map cGExpr))))]
   refine st 1 a3 (nx (si (so ?_)))
   let a4 : St := a3.p [(5, (vI 0))]
   exact st 1 a4 (nx (bi (loop_go (s' := stsQuerySize_L0 y1 0 0) (wr [(4, .old 4)] (es (eo 4 (es er_nil))) br_nil) (OK_sQuerySize_L0 y1 0 0 _ h))))
 · intro F_sQuerySize_L0 F_sSizeOf OK_sQuerySize_L0 OK_sSizeOf y1 x3 x5 r h
   delta acsQuerySize_L0
   refine loop_unroll (si (so ?_))
   let a5 : St := (stsQuerySize_L0 y1 x3 x5).p [(9, (.osl 4 49 10 (y1.map cGExpr))), (8, (vI x5))]
   refine st 2 a5 (ps (vI (y1.length : Int)) (vop_len (sz := 10) (l := y1) (f := cGExpr) (by kernel_rfl) (by kernel_rfl)) ?_)
   let a6 : St := a5.p [(11, (vB (decide (x5 < (y1.length : Int))))), (10, (vI (y1.length : Int)))]
   refine st 1 a6 (nx ?_)
   refine cd h (fun h => ?_) fun h => ?_
   refine ki (xi (si (bi (oi ?_))))
   let a7 : St := a6.p [(16, (vI x5)), (15, (.osl 4 49 10 (y1.map cGExpr))), (14, (vI x3))]
   refine st 3 a7 (vs (fun (y : GExpr) => (.rp (oGExpr y))) h (fun y hy => vop_ia (l := y1) (f := cGExpr) (g := oGExpr) (k := .i64) hy cGExpr_eq (by kernel_rfl) (by kernel_rfl) (by kernel_rfl)) fun y2 h => ?_)
   let a8 : St := a7.p [(18, (vGExpr y2)), (17, (.rp (oGExpr y2)))]
   refine st 1 a8 (cs h (OK_sSizeOf y2) fun y3 h => ?_)
   let a9 : St := a8.p [(3, (vI (IntKind.wrap .i64 (x3 + y3)))), (20, (vI (IntKind.wrap .i64 (x3 + y3)))), (19, (vI y3))]
   refine st 2 a9 (ni (bn (xi (oi ?_))))
   let a10 : St := a9.p [(5, (vI (IntKind.wrap .i64 (x5 + 1)))), (13, (vI (IntKind.wrap .i64 (x5 + 1)))), (12, (vI x5))]
   exact st 3 a10 (ni (loop_back (s' := stsQuerySize_L0 y1 (IntKind.wrap .i64 (x3 + y3)) (IntKind.wrap .i64 (x5 + 1))) (wr [(4, .old 4)] (es (eo 4 (es er_nil))) br_nil) (OK_sQuerySize_L0 y1 (IntKind.wrap .i64 (x3 + y3)) (IntKind.wrap .i64 (x5 + 1)) _ h)))
   refine ei (te (te (bh (xi (so ?_)))))
   let a11 : St := a6.p [(2, (vI x3)), (21, (vI x3))]
   refine st 2 a11 (nx (ri ?_))
   injection h with h; subst h
   exact ret1_step (v := (vI x3)) (by kernel_rfl) (by kernel_rfl) (by kernel_rfl)
 · intro F_sSizeOf_L0 OK_sSizeOf_L0 p0 r h
   refine acalls_of_fn trsSizeOf (Nat.le_of_ble_eq_true rfl) (by simp) ?_
   show avc Try.prog acsSizeOf (qsSizeOf _) ⟨[(0, (vGExpr p0))], []⟩
   delta acsSizeOf
   refine so ?_
   let a0 : St := ⟨[(2, (vI 0)), (1, (.ptr 1 0)), (0, (vGExpr p0))], [(1, bGExpr p0)]⟩
   refine st 2 a0 (nx (so ?_))
   let a1 : St := a0.p [(3, (vI 1))]
   refine st 1 a1 (nx (si (so ?_)))
   let a2 : St := a1.p [(4, (vI 0))]
   exact st 1 a2 (nx (bi (loop_go (s' := stsSizeOf_L0 p0 1 0) (wr [] (es (es (es er_nil))) (bs_ br_nil)) (OK_sSizeOf_L0 p0 1 0 _ h))))
 · intro F_sSizeOf_L1 F_sSizeOf F_sSizeOf_L0 OK_sSizeOf_L1 OK_sSizeOf OK_sSizeOf_L0 p0 x3 x4 r h
   delta acsSizeOf_L0
   refine loop_unroll (si (so ?_))
   let a3 : St := (stsSizeOf_L0 p0 x3 x4).p [(8, (.d (.sl 10 (p0.kids.map cGExpr)))), (7, (.ptr 1 8)), (6, (vI x4))]
   refine st 3 a3 (ps (vI (p0.kids.length : Int)) (vop_len (sz := 10) (l := p0.kids) (f := cGExpr) (by kernel_rfl) (by kernel_rfl)) ?_)
   let a4 : St := a3.p [(10, (vB (decide (x4 < (p0.kids.length : Int))))), (9, (vI (p0.kids.length : Int)))]
   refine st 1 a4 (nx ?_)
   refine cd h (fun h => ?_) fun h => ?_
   refine ki (xi (si (bi (oi ?_))))
   let a5 : St := a4.p [(16, (vI x4)), (15, (.d (.sl 10 (p0.kids.map cGExpr)))), (14, (.ptr 1 8)), (13, (vI x3))]
   refine st 4 a5 (vs (fun (y : GExpr) => (.rp (oGExpr y))) h (fun y hy => vop_ia (l := p0.kids) (f := cGExpr) (g := oGExpr) (k := .i64) hy cGExpr_eq (by kernel_rfl) (by kernel_rfl) (by kernel_rfl)) fun y1 h => ?_)
   let a6 : St := a5.p [(18, (vGExpr y1)), (17, (.rp (oGExpr y1)))]
   refine st 1 a6 (cs h (OK_sSizeOf y1) fun y2 h => ?_)
   let a7 : St := a6.p [(3, (vI (IntKind.wrap .i64 (x3 + y2)))), (20, (vI (IntKind.wrap .i64 (x3 + y2)))), (19, (vI y2))]
   refine st 2 a7 (ni (bn (xi (oi ?_))))
   let a8 : St := a7.p [(4, (vI (IntKind.wrap .i64 (x4 + 1)))), (12, (vI (IntKind.wrap .i64 (x4 + 1)))), (11, (vI x4))]
   exact st 3 a8 (ni (loop_back (s' := stsSizeOf_L0 p0 (IntKind.wrap .i64 (x3 + y2)) (IntKind.wrap .i64 (x4 + 1))) (wr [] (es (es (es er_nil))) (bs_ br_nil)) (OK_sSizeOf_L0 p0 (IntKind.wrap .i64 (x3 + y2)) (IntKind.wrap .i64 (x4 + 1)) _ h)))
   refine ei (te (te (bh (xi (si (so ?_))))))
   let a9 : St := a4.p [(5, (vI 0))]
   exact st 1 a9 (nx (bi (loop_go (s' := stsSizeOf_L1 p0 x3 0) (wr [] (es (es (es er_nil))) (bs_ br_nil)) (OK_sSizeOf_L1 p0 x3 0 _ h))))
theorem OK_sSizeOf_L1 (p0 : GExpr) (x3_3 : Int) (x5 : Int) (r : Int) (h : sSizeOf_L1 p0 x3_3 x5 = some r) : avc Try.prog acsSizeOf_L1 (qsSizeOf_3 r) (stsSizeOf_L1 p0 x3_3 x5) := (OKs_sSizeOf_L1).1 p0 x3_3 x5 r h
theorem OK_sQuerySize (p0 : GQuery) : FOk Try.prog 100 [(vGQuery p0)] (fun y => (vI y)) (sQuerySize p0) := fun r h => (OKs_sSizeOf_L1).2.1 p0 r h
theorem OK_sQuerySize_L0 (y1 : (List GExpr)) (x3 : Int) (x5 : Int) (r : Int) (h : sQuerySize_L0 y1 x3 x5 = some r) : avc Try.prog acsQuerySize_L0 (qsQuerySize_1 r) (stsQuerySize_L0 y1 x3 x5) := (OKs_sSizeOf_L1).2.2.1 y1 x3 x5 r h
theorem OK_sSizeOf (p0 : GExpr) : FOk Try.prog 93 [(vGExpr p0)] (fun y => (vI y)) (sSizeOf p0) := fun r h => (OKs_sSizeOf_L1).2.2.2.1 p0 r h
theorem OK_sSizeOf_L0 (p0 : GExpr) (x3 : Int) (x4 : Int) (r : Int) (h : sSizeOf_L0 p0 x3 x4 = some r) : avc Try.prog acsSizeOf_L0 (qsSizeOf_1 r) (stsSizeOf_L0 p0 x3 x4) := (OKs_sSizeOf_L1).2.2.2.2 p0 x3 x4 r h
theorem OK_sQueryOk (p0 : GQuery) : FOk Try.prog 40 [(vGQuery p0)] (fun y => (vB y)) (sQueryOk p0) := by
 intro r h
 rw [sQueryOk] at h
 refine acalls_of_fn trsQueryOk (Nat.le_of_ble_eq_true rfl) (by simp) ?_
 show avc Try.prog acsQueryOk (qsQueryOk _) ⟨[(0, (vGQuery p0))], []⟩
 delta acsQueryOk
 refine so ?_
 let a0 : St := ⟨[(2, (vB false)), (1, (.ptr 1 0)), (0, (vGQuery p0))], [(1, bGQuery p0)]⟩
 refine st 2 a0 (nx (so ?_))
 let a1 : St := a0.p [(3, (vGQuery p0))]
 refine st 1 a1 (cs h (OK_sL7RightQuery p0) fun y1 h => ?_)
 let a2 : St := a1.p [(5, (vB y1)), (4, (vB y1))]
 refine st 1 a2 (gp true y1 (vGQuery p0) (fun hc => vl) (gcall_step (p := true) (b := y1) (m := sQueryDepth p0) (dflt := default) (args := [(vGQuery p0)]) (v' := (fun y => (vI y))) h (by kernel_rfl) (OK_sQueryDepth p0) (fun hc => by kernel_rfl) (by kernel_rfl) (fun _ => rfl) (fun hc => (Eq.trans (b := ([(true && (y1 == true))] : List Bool).all id) (by kernel_rfl) (all_c hc rfl))) ?_))
 clear h; intro y2 h
 refine gp true y1 (vB (decide (y2 ≤ 24))) (fun hc => vg hc) (vs (fun (y : Bool) => (vB y)) h (fun y hy => vop_pickV hy (p := (true && (y1 == true))) (q := true) (by kernel_rfl) (by kernel_rfl) (by kernel_rfl) (by kernel_rfl) (fun hb => gc_t rfl hb) (fun _ => rfl)) fun y3 h => ?_)
 let a3 : St := a2.p [(10, (vB y3)), (9, (vB y3)), (8, (.ite (gT y1) (vB (decide (y2 ≤ 24))))), (7, (.ite (gT y1) (vI y2))), (6, (.ite (gT y1) (vGQuery p0)))]
 refine st 1 a3 (gp true y3 (vGQuery p0) (fun hc => vl) (gcall_step (p := true) (b := y3) (m := sQuerySize p0) (dflt := default) (args := [(vGQuery p0)]) (v' := (fun y => (vI y))) h (by kernel_rfl) (OK_sQuerySize p0) (fun hc => by kernel_rfl) (by kernel_rfl) (fun _ => rfl) (fun hc => (Eq.trans (b := ([(true && (y3 == true))] : List Bool).all id) (by kernel_rfl) (all_c hc rfl))) ?_))
 clear h; intro y4 h
 refine gp true y3 (vB (decide (y4 ≤ 200))) (fun hc => vg hc) (vs (fun (y : Bool) => (vB y)) h (fun y hy => vop_pickV hy (p := (true && (y3 == true))) (q := true) (by kernel_rfl) (by kernel_rfl) (by kernel_rfl) (by kernel_rfl) (fun hb => gc_t rfl hb) (fun _ => rfl)) fun y5 h => ?_)
 let a4 : St := a3.p [(2, (vB y5)), (14, (vB y5)), (13, (.ite (gT y3) (vB (decide (y4 ≤ 200))))), (12, (.ite (gT y3) (vI y4))), (11, (.ite (gT y3) (vGQuery p0)))]
 refine st 1 a4 (nx (ri ?_))
 injection h with h; subst h
 exact ret1_step (v := (vB y5)) (by kernel_rfl) (by kernel_rfl) (by kernel_rfl)
theorem OK_wEqValue (p0 : GValue) (p1 : GValue) : FOk Try.prog 77 [(vGValue p0), (vGValue p1)] (fun y => (vB y)) (wEqValue p0 p1) := by
 intro r h
 rw [wEqValue] at h
 refine acalls_of_fn trwEqValue (Nat.le_of_ble_eq_true rfl) (by simp) ?_
 show avc Try.prog acwEqValue (qwEqValue _) ⟨[(0, (vGValue p0)), (1, (vGValue p1))], []⟩
 delta acwEqValue
 refine so ?_
 let a0 : St := ⟨[(4, (vB false)), (3, (.ptr 3 0)), (2, (.ptr 2 0)), (0, (vGValue p0)), (1, (vGValue p1))], [(3, bGValue p1), (2, bGValue p0)]⟩
 refine st 3 a0 (nx (si (so ?_)))
 let a1 : St := a0.p [(9, (vB (!decide (p0.kind = p1.kind)))), (8, (vI p1.kind)), (7, (.ptr 3 0)), (6, (vI p0.kind)), (5, (.ptr 2 0))]
 refine st 5 a1 (nx ?_)
 refine cd h (fun h => ?_) fun h => ?_
 refine so ?_
 let a2 : St := a1.p [(4, (vB false))]
 refine st 1 a2 (nx (ri (tr ?_)))
 injection h with h; subst h
 exact ret1_step (v := (vB false)) (by kernel_rfl) (by kernel_rfl) (by kernel_rfl)
 refine ki (xi (si (so ?_)))
 let a3 : St := a1.p [(14, (vB (!decide (p0.num = p1.num)))), (13, (vI p1.num)), (12, (.ptr 3 1)), (11, (vI p0.num)), (10, (.ptr 2 1))]
 refine st 5 a3 (nx ?_)
 refine cd h (fun h => ?_) fun h => ?_
 refine so ?_
 let a4 : St := a3.p [(4, (vB false))]
 refine st 1 a4 (nx (ri (tr ?_)))
 injection h with h; subst h
 exact ret1_step (v := (vB false)) (by kernel_rfl) (by kernel_rfl) (by kernel_rfl)
 refine ki (xi (si (so ?_)))
 let a5 : St := a3.p [(19, (vB (!decide (p0.text = p1.text)))), (18, (vS p1.text)), (17, (.ptr 3 2)), (16, (vS p0.text)), (15, (.ptr 2 2))]
 refine st 5 a5 (nx ?_)
 refine cd h (fun h => ?_) fun h => ?_
 refine so ?_
 let a6 : St := a5.p [(4, (vB false))]
 refine st 1 a6 (nx (ri (tr ?_)))
 injection h with h; subst h
 exact ret1_step (v := (vB false)) (by kernel_rfl) (by kernel_rfl) (by kernel_rfl)
 refine ki (xi (so ?_))
 let a7 : St := a5.p [(4, (vB true))]
 refine st 1 a7 (nx (ri ?_))
 injection h with h; subst h
 exact ret1_step (v := (vB true)) (by kernel_rfl) (by kernel_rfl) (by kernel_rfl)
end Go.Proofs.Ytdiknmniclancaa
