/- That the code computes these functions (printed by a program). -/
import Derived.Test.YtdiknmniclancaaGreatCExactStmtOk0
namespace Go.Proofs.YtdiknmniclancaaGreat
open Go Go.RowKit Go.Ab
theorem OKs_gZ4_L0 : (∀ (p1 : (List GExpr)) (p0 : (List GExpr)) (x17 : Int) (r : Bool), gZ4_L0 p1 p0 x17 = some r → avc Tryz.prog acgZ4_L0 (qgZ4_1 r) (stgZ4_L0 p1 p0 x17)) ∧ (∀ (p0 : GExpr) (p1 : GExpr) (r : Bool), iSameExpr p0 p1 = some r → ACalls Tryz.prog 59 [(vGExpr p0), (vGExpr p1)] [] fun x _ => x = (fun y => (vB y)) r) ∧ (∀ (p0 : (List GQuery)) (p1 : (List GQuery)) (r : Bool), gZ2 p0 p1 = some r → ACalls Tryz.prog 94 [(.d (.sl 6 (p0.map cGQuery))), (.d (.sl 6 (p1.map cGQuery))), (.fn 24 [])] [] fun x _ => x = (fun y => (vB y)) r) ∧ (∀ (p1 : (List GQuery)) (p0 : (List GQuery)) (x17 : Int) (r : Bool), gZ2_L0 p1 p0 x17 = some r → avc Tryz.prog acgZ2_L0 (qgZ2_1 r) (stgZ2_L0 p1 p0 x17)) ∧ (∀ (p0 : GQuery) (p1 : GQuery) (r : Bool), iSameQuery p0 p1 = some r → ACalls Tryz.prog 24 [(vGQuery p0), (vGQuery p1)] [] fun x _ => x = (fun y => (vB y)) r) ∧ (∀ (p0 : (List GSortKey)) (p1 : (List GSortKey)) (r : Bool), gZ0 p0 p1 = some r → ACalls Tryz.prog 65 [(.d (.sl 11 (p0.map cGSortKey))), (.d (.sl 11 (p1.map cGSortKey))), (.fn 62 [])] [] fun x _ => x = (fun y => (vB y)) r) ∧ (∀ (p1 : (List GSortKey)) (p0 : (List GSortKey)) (x17 : Int) (r : Bool), gZ0_L0 p1 p0 x17 = some r → avc Tryz.prog acgZ0_L0 (qgZ0_1 r) (stgZ0_L0 p1 p0 x17)) ∧ (∀ (p0 : GSortKey) (p1 : GSortKey) (r : Bool), iSameQuery_3 p0 p1 = some r → ACalls Tryz.prog 62 [(vGSortKey p0), (vGSortKey p1)] [] fun x _ => x = (fun y => (vB y)) r) ∧ (∀ (p0 : (List GExpr)) (p1 : (List GExpr)) (r : Bool), iSameExprs p0 p1 = some r → ACalls Tryz.prog 61 [(.d (.sl 10 (p0.map cGExpr))), (.d (.sl 10 (p1.map cGExpr)))] [] fun x _ => x = (fun y => (vB y)) r) ∧ (∀ (p0 : (List GExpr)) (p1 : (List GExpr)) (r : Bool), gZ4 p0 p1 = some r → ACalls Tryz.prog 95 [(.d (.sl 10 (p0.map cGExpr))), (.d (.sl 10 (p1.map cGExpr))), (.fn 59 [])] [] fun x _ => x = (fun y => (vB y)) r) ∧ (∀ (p0 : (List GSource)) (p1 : (List GSource)) (r : Bool), gZ1 p0 p1 = some r → ACalls Tryz.prog 64 [(.d (.sl 3 (p0.map cGSource))), (.d (.sl 3 (p1.map cGSource))), (.fn 60 [])] [] fun x _ => x = (fun y => (vB y)) r) ∧ (∀ (p1 : (List GSource)) (p0 : (List GSource)) (x17 : Int) (r : Bool), gZ1_L0 p1 p0 x17 = some r → avc Tryz.prog acgZ1_L0 (qgZ1_1 r) (stgZ1_L0 p1 p0 x17)) ∧ (∀ (p0 : GSource) (p1 : GSource) (r : Bool), iSameQuery_2 p0 p1 = some r → ACalls Tryz.prog 60 [(vGSource p0), (vGSource p1)] [] fun x _ => x = (fun y => (vB y)) r) ∧ (∀ (p0 : (List GItem)) (p1 : (List GItem)) (r : Bool), gZ3 p0 p1 = some r → ACalls Tryz.prog 63 [(.d (.sl 13 (p0.map cGItem))), (.d (.sl 13 (p1.map cGItem))), (.fn 58 [])] [] fun x _ => x = (fun y => (vB y)) r) ∧ (∀ (p1 : (List GItem)) (p0 : (List GItem)) (x17 : Int) (r : Bool), gZ3_L0 p1 p0 x17 = some r → avc Tryz.prog acgZ3_L0 (qgZ3_1 r) (stgZ3_L0 p1 p0 x17)) ∧ (∀ (p0 : GItem) (p1 : GItem) (r : Bool), iSameQuery_1 p0 p1 = some r → ACalls Tryz.prog 58 [(vGItem p0), (vGItem p1)] [] fun x _ => x = (fun y => (vB y)) r) := by
 refine gZ4_L0.mutual_partial_correctness (fun p1 p0 x17 r => avc Tryz.prog acgZ4_L0 (qgZ4_1 r) (stgZ4_L0 p1 p0 x17)) (fun p0 p1 r => ACalls Tryz.prog 59 [(vGExpr p0), (vGExpr p1)] [] fun x _ => x = (fun y => (vB y)) r) (fun p0 p1 r => ACalls Tryz.prog 94 [(.d (.sl 6 (p0.map cGQuery))), (.d (.sl 6 (p1.map cGQuery))), (.fn 24 [])] [] fun x _ => x = (fun y => (vB y)) r) (fun p1 p0 x17 r => avc Tryz.prog acgZ2_L0 (qgZ2_1 r) (stgZ2_L0 p1 p0 x17)) (fun p0 p1 r => ACalls Tryz.prog 24 [(vGQuery p0), (vGQuery p1)] [] fun x _ => x = (fun y => (vB y)) r) (fun p0 p1 r => ACalls Tryz.prog 65 [(.d (.sl 11 (p0.map cGSortKey))), (.d (.sl 11 (p1.map cGSortKey))), (.fn 62 [])] [] fun x _ => x = (fun y => (vB y)) r) (fun p1 p0 x17 r => avc Tryz.prog acgZ0_L0 (qgZ0_1 r) (stgZ0_L0 p1 p0 x17)) (fun p0 p1 r => ACalls Tryz.prog 62 [(vGSortKey p0), (vGSortKey p1)] [] fun x _ => x = (fun y => (vB y)) r) (fun p0 p1 r => ACalls Tryz.prog 61 [(.d (.sl 10 (p0.map cGExpr))), (.d (.sl 10 (p1.map cGExpr)))] [] fun x _ => x = (fun y => (vB y)) r) (fun p0 p1 r => ACalls Tryz.prog 95 [(.d (.sl 10 (p0.map cGExpr))), (.d (.sl 10 (p1.map cGExpr))), (.fn 59 [])] [] fun x _ => x = (fun y => (vB y)) r) (fun p0 p1 r => ACalls Tryz.prog 64 [(.d (.sl 3 (p0.map cGSource))), (.d (.sl 3 (p1.map cGSource))), (.fn 60 [])] [] fun x _ => x = (fun y => (vB y)) r) (fun p1 p0 x17 r => avc Tryz.prog acgZ1_L0 (qgZ1_1 r) (stgZ1_L0 p1 p0 x17)) (fun p0 p1 r => ACalls Tryz.prog 60 [(vGSource p0), (vGSource p1)] [] fun x _ => x = (fun y => (vB y)) r) (fun p0 p1 r => ACalls Tryz.prog 63 [(.d (.sl 13 (p0.map cGItem))), (.d (.sl 13 (p1.map cGItem))), (.fn 58 [])] [] fun x _ => x = (fun y => (vB y)) r) (fun p1 p0 x17 r => avc Tryz.prog acgZ3_L0 (qgZ3_1 r) (stgZ3_L0 p1 p0 x17)) (fun p0 p1 r => ACalls Tryz.prog 58 [(vGItem p0), (vGItem p1)] [] fun x _ => x = (fun y => (vB y)) r) ?_ ?_ ?_ ?_ ?_ ?_ ?_ ?_ ?_ ?_ ?_ ?_ ?_ ?_ ?_ ?_
 · intro F_gZ4_L0 F_iSameExpr OK_gZ4_L0 OK_iSameExpr p1 p0 x17 r h
   delta acgZ4_L0
   refine loop_unroll (so ?_)
   let a7 : St := (stgZ4_L0 p1 p0 x17).p [(18, (vB (decide (x17 < (ln p0)))))]
   refine st 1 a7 (nx (si ?_))
   refine cd h (fun h => ?_) fun h => ?_
   refine ki (xi (si (bi (so ?_))))
   let a8 : St := a7.p [(19, (vI x17))]
   refine st 1 a8 (vs (fun (y : GExpr) => (.rp (oGExpr y))) h (fun y hy => via (l := p0) (f := cGExpr) (g := oGExpr) (k := .i64) hy cGExpr_eq) fun y1 h => ?_)
   let a9 : St := ⟨(7, (vI x17)) :: (8, (.ptr 8 0)) :: (21, (vGExpr y1)) :: (20, (.rp (oGExpr y1))) :: a8.env, [(8, bGExpr y1)]⟩
   refine st 4 a9 (nx (so ?_))
   let a10 : St := a9.p [(23, (vI x17)), (22, (.d (.sl 10 (p1.map cGExpr))))]
   refine st 2 a10 (vs (fun (y : GExpr) => (.rp (oGExpr y))) h (fun y hy => via (l := p1) (f := cGExpr) (g := oGExpr) (k := .i64) hy cGExpr_eq) fun y2 h => ?_)
   let a11 : St := ⟨(9, (.ptr 9 0)) :: (25, (vGExpr y2)) :: (24, (.rp (oGExpr y2))) :: a10.env, [(9, bGExpr y2), (8, bGExpr y1)]⟩
   refine st 3 a11 (nx (so ?_))
   let a12 : St := a11.p [(28, (vGExpr y2)), (27, (vGExpr y1)), (26, (.fn 59 []))]
   refine st 3 a12 (callv_step (m := F_iSameExpr y1 y2) (caps := []) (args := [(vGExpr y1), (vGExpr y2)]) (v' := (fun y => (vB y))) h (by kernel_rfl) (by kernel_rfl) (OK_iSameExpr y1 y2) (by kernel_rfl) (by kernel_rfl) (fun _ => rfl) ?_)
   clear h; intro y3 h
   let a13 : St := a12.p [(30, (vB (!y3))), (29, (vB y3))]
   refine st 1 a13 (nx ?_)
   refine cd h (fun h => ?_) fun h => ?_
   refine so ?_
   let a14 : St := a13.p [(6, (vB false))]
   refine st 1 a14 (nx (ri (br (tr (tr (br (tr ?_)))))))
   injection h with h; subst h
   exact r1 (v := (vB false))
   refine ki (bn (xi (oi ?_)))
   let a15 : St := a13.p [(17, (vI (IntKind.wrap .i64 (x17 + 1)))), (31, (vI (IntKind.wrap .i64 (x17 + 1))))]
   exact st 2 a15 (ni (loop_back (s' := stgZ4_L0 p1 p0 (IntKind.wrap .i64 (x17 + 1))) (wr [] (es (es (es (es (es er_nil))))) br_nil) (OK_gZ4_L0 p1 p0 (IntKind.wrap .i64 (x17 + 1)) _ h)))
   refine ei (te (te (bh (xi (so ?_)))))
   let a16 : St := a7.p [(6, (vB true))]
   refine st 1 a16 (nx (ri ?_))
   injection h with h; subst h
   exact r1 (v := (vB true))
 · intro F_gZ2 F_iSameExprs OK_gZ2 OK_iSameExprs p0 p1 r h
   refine aof triSameExpr ?_
   show avc Tryz.prog aciSameExpr (qiSameExpr _) ⟨[(0, (vGExpr p0)), (1, (vGExpr p1))], []⟩
   delta aciSameExpr
   refine so ?_
   let a0 : St := ⟨[(4, (vB false)), (3, (.ptr 3 0)), (2, (.ptr 2 0)), (0, (vGExpr p0)), (1, (vGExpr p1))], [(3, bGExpr p1), (2, bGExpr p0)]⟩
   refine st 3 a0 (nx (so ?_))
   let a1 : St := a0.p [(10, (vB (decide (p0.kind = p1.kind)))), (9, (vB (decide (p0.kind = p1.kind)))), (8, (vI p1.kind)), (7, (.ptr 3 0)), (6, (vI p0.kind)), (5, (.ptr 2 0))]
   refine st 6 a1 (gp true (decide (p0.kind = p1.kind)) (.ptr 2 1) (fun hc => vl) (gp true (decide (p0.kind = p1.kind)) (vI p0.op) (fun hc => vg hc) (gp true (decide (p0.kind = p1.kind)) (.ptr 3 1) (fun hc => vl) (gp true (decide (p0.kind = p1.kind)) (vI p1.op) (fun hc => vg hc) ?_))))
   refine gp true (decide (p0.kind = p1.kind)) (vB (decide (p0.op = p1.op))) (fun hc => vop_val1 (Eq.trans (b := ([(true && ((decide (p0.kind = p1.kind)) == true)), (true && ((decide (p0.kind = p1.kind)) == true))] : List Bool).all id) (by kernel_rfl) (all_c hc (all_c hc rfl))) (by kernel_rfl)) ?_
   refine vs (fun (y : Bool) => (vB y)) h (fun y hy => vop_pickV hy (p := (true && ((decide (p0.kind = p1.kind)) == true))) (q := true) (by kernel_rfl) (by kernel_rfl) (by kernel_rfl) (by kernel_rfl) (fun hb => gc_t rfl hb) (fun _ => rfl)) fun y1 h => ?_
   let a2 : St := a1.p [(17, (vB y1)), (16, (vB y1)), (15, (.ite (true && ((decide (p0.kind = p1.kind)) == true)) (vB (decide (p0.op = p1.op))))), (14, (.ite (true && ((decide (p0.kind = p1.kind)) == true)) (vI p1.op))), (13, (.ite (true && ((decide (p0.kind = p1.kind)) == true)) (.ptr 3 1))), (12, (.ite (true && ((decide (p0.kind = p1.kind)) == true)) (vI p0.op))), (11, (.ite (true && ((decide (p0.kind = p1.kind)) == true)) (.ptr 2 1)))]
   refine st 1 a2 (gp true y1 (.ptr 2 2) (fun hc => vl) (gp true y1 (vB p0.not_) (fun hc => vg hc) (gp true y1 (.ptr 3 2) (fun hc => vl) (gp true y1 (vB p1.not_) (fun hc => vg hc) (gp true y1 (vB (p0.not_ == p1.not_)) (fun hc => vop_val1 (Eq.trans (b := ([(true && (y1 == true)), (true && (y1 == true))] : List Bool).all id) (by kernel_rfl) (all_c hc (all_c hc rfl))) (by kernel_rfl)) ?_)))))
   refine vs (fun (y : Bool) => (vB y)) h (fun y hy => vop_pickV hy (p := (true && (y1 == true))) (q := true) (by kernel_rfl) (by kernel_rfl) (by kernel_rfl) (by kernel_rfl) (fun hb => gc_t rfl hb) (fun _ => rfl)) fun y2 h => ?_
   let a3 : St := a2.p [(24, (vB y2)), (23, (vB y2)), (22, (.ite (gT y1) (vB (p0.not_ == p1.not_)))), (21, (.ite (gT y1) (vB p1.not_))), (20, (.ite (gT y1) (.ptr 3 2))), (19, (.ite (gT y1) (vB p0.not_))), (18, (.ite (gT y1) (.ptr 2 2)))]
   refine st 1 a3 (gp true y2 (.ptr 2 3) (fun hc => vl) (gp true y2 (vGValue p0.value) (fun hc => vg hc) (gp true y2 (.ptr 3 3) (fun hc => vl) (gp true y2 (vGValue p1.value) (fun hc => vg hc) ?_))))
   refine gp true y2 (vB ((decide (p0.value.kind = p1.value.kind)) && ((decide (p0.value.num = p1.value.num)) && ((decide (p0.value.text = p1.value.text)) && true)))) (fun hc => vop_val1 (Eq.trans (b := ([(true && (y2 == true)), (true && (y2 == true))] : List Bool).all id) (by kernel_rfl) (all_c hc (all_c hc rfl))) (by kernel_rfl)) ?_
   refine vs (fun (y : Bool) => (vB y)) h (fun y hy => vop_pickV hy (p := (true && (y2 == true))) (q := true) (by kernel_rfl) (by kernel_rfl) (by kernel_rfl) (by kernel_rfl) (fun hb => gc_t rfl hb) (fun _ => rfl)) fun y3 h => ?_
   let a4 : St := a3.p [(31, (vB y3)), (30, (vB y3)), (29, (.ite (gT y2) (vB ((decide (p0.value.kind = p1.value.kind)) && ((decide (p0.value.num = p1.value.num)) && ((decide (p0.value.text = p1.value.text)) && true)))))), (28, (.ite (gT y2) (vGValue p1.value))), (27, (.ite (gT y2) (.ptr 3 3))), (26, (.ite (gT y2) (vGValue p0.value))), (25, (.ite (gT y2) (.ptr 2 3)))]
   refine st 1 a4 (gp true y3 (.ptr 2 6) (fun hc => vl) (gp true y3 (vS p0.qual) (fun hc => vg hc) (gp true y3 (.ptr 3 6) (fun hc => vl) (gp true y3 (vS p1.qual) (fun hc => vg hc) (gp true y3 (vB (decide (p0.qual = p1.qual))) (fun hc => vop_val1 (Eq.trans (b := ([(true && (y3 == true)), (true && (y3 == true))] : List Bool).all id) (by kernel_rfl) (all_c hc (all_c hc rfl))) (by kernel_rfl)) ?_)))))
   refine vs (fun (y : Bool) => (vB y)) h (fun y hy => vop_pickV hy (p := (true && (y3 == true))) (q := true) (by kernel_rfl) (by kernel_rfl) (by kernel_rfl) (by kernel_rfl) (fun hb => gc_t rfl hb) (fun _ => rfl)) fun y4 h => ?_
   let a5 : St := a4.p [(38, (vB y4)), (37, (vB y4)), (36, (.ite (gT y3) (vB (decide (p0.qual = p1.qual))))), (35, (.ite (gT y3) (vS p1.qual))), (34, (.ite (gT y3) (.ptr 3 6))), (33, (.ite (gT y3) (vS p0.qual))), (32, (.ite (gT y3) (.ptr 2 6)))]
   refine st 1 a5 (gp true y4 (.ptr 2 7) (fun hc => vl) (gp true y4 (vS p0.name) (fun hc => vg hc) (gp true y4 (.ptr 3 7) (fun hc => vl) (gp true y4 (vS p1.name) (fun hc => vg hc) (gp true y4 (vB (decide (p0.name = p1.name))) (fun hc => vop_val1 (Eq.trans (b := ([(true && (y4 == true)), (true && (y4 == true))] : List Bool).all id) (by kernel_rfl) (all_c hc (all_c hc rfl))) (by kernel_rfl)) ?_)))))
   refine vs (fun (y : Bool) => (vB y)) h (fun y hy => vop_pickV hy (p := (true && (y4 == true))) (q := true) (by kernel_rfl) (by kernel_rfl) (by kernel_rfl) (by kernel_rfl) (fun hb => gc_t rfl hb) (fun _ => rfl)) fun y5 h => ?_
   let a6 : St := a5.p [(45, (vB y5)), (44, (vB y5)), (43, (.ite (gT y4) (vB (decide (p0.name = p1.name))))), (42, (.ite (gT y4) (vS p1.name))), (41, (.ite (gT y4) (.ptr 3 7))), (40, (.ite (gT y4) (vS p0.name))), (39, (.ite (gT y4) (.ptr 2 7)))]
   refine st 1 a6 (gp true y5 (.ptr 2 8) (fun hc => vl) (gp true y5 (.d (.sl 10 (p0.kids.map cGExpr))) (fun hc => vg hc) (gp true y5 (.ptr 3 8) (fun hc => vl) (gp true y5 (.d (.sl 10 (p1.kids.map cGExpr))) (fun hc => vg hc) ?_))))
   refine gcall_step (p := true) (b := y5) (m := F_iSameExprs p0.kids p1.kids) (dflt := default) (args := [(.d (.sl 10 (p0.kids.map cGExpr))), (.d (.sl 10 (p1.kids.map cGExpr)))]) (v' := (fun y => (vB y))) h (by kernel_rfl) (OK_iSameExprs p0.kids p1.kids) (fun hc => by kernel_rfl) (by kernel_rfl) (fun _ => rfl) (fun hc => (Eq.trans (b := ([(true && (y5 == true)), (true && (y5 == true))] : List Bool).all id) (by kernel_rfl) (all_c hc (all_c hc rfl)))) ?_
   clear h; intro y6 h
   refine vs (fun (y : Bool) => (vB y)) h (fun y hy => vop_pickV hy (p := (true && (y5 == true))) (q := true) (by kernel_rfl) (by kernel_rfl) (by kernel_rfl) (by kernel_rfl) (fun hb => gc_t rfl hb) (fun _ => rfl)) fun y7 h => ?_
   let a7 : St := a6.p [(52, (vB y7)), (51, (vB y7)), (50, (.ite (gT y5) (vB y6))), (49, (.ite (gT y5) (.d (.sl 10 (p1.kids.map cGExpr))))), (48, (.ite (gT y5) (.ptr 3 8))), (47, (.ite (gT y5) (.d (.sl 10 (p0.kids.map cGExpr))))), (46, (.ite (gT y5) (.ptr 2 8)))]
   refine st 1 a7 (gp true y7 (.ptr 2 9) (fun hc => vl) (gp true y7 (.d (.sl 6 (p0.sub.map cGQuery))) (fun hc => vg hc) (gp true y7 (.ptr 3 9) (fun hc => vl) (gp true y7 (.d (.sl 6 (p1.sub.map cGQuery))) (fun hc => vg hc) ?_))))
   refine gcall_step (p := true) (b := y7) (m := F_gZ2 p0.sub p1.sub) (dflt := default) (args := [(.d (.sl 6 (p0.sub.map cGQuery))), (.d (.sl 6 (p1.sub.map cGQuery))), (.fn 24 [])]) (v' := (fun y => (vB y))) h (by kernel_rfl) (OK_gZ2 p0.sub p1.sub) (fun hc => by kernel_rfl) (by kernel_rfl) (fun _ => rfl) (fun hc => (Eq.trans (b := ([(true && (y7 == true)), (true && (y7 == true))] : List Bool).all id) (by kernel_rfl) (all_c hc (all_c hc rfl)))) ?_
   clear h; intro y8 h
   refine vs (fun (y : Bool) => (vB y)) h (fun y hy => vop_pickV hy (p := (true && (y7 == true))) (q := true) (by kernel_rfl) (by kernel_rfl) (by kernel_rfl) (by kernel_rfl) (fun hb => gc_t rfl hb) (fun _ => rfl)) fun y9 h => ?_
   let a8 : St := a7.p [(4, (vB y9)), (58, (vB y9)), (57, (.ite (gT y7) (vB y8))), (56, (.ite (gT y7) (.d (.sl 6 (p1.sub.map cGQuery))))), (55, (.ite (gT y7) (.ptr 3 9))), (54, (.ite (gT y7) (.d (.sl 6 (p0.sub.map cGQuery))))), (53, (.ite (gT y7) (.ptr 2 9)))]
   refine st 1 a8 (nx (ri ?_))
   injection h with h; subst h
   exact r1 (v := (vB y9))
 · intro F_gZ2_L0 OK_gZ2_L0 p0 p1 r h
   refine aof trgZ2 ?_
   show avc Tryz.prog acgZ2 (qgZ2 _) ⟨[(0, (.d (.sl 6 (p0.map cGQuery)))), (1, (.d (.sl 6 (p1.map cGQuery)))), (2, (.fn 24 []))], []⟩
   delta acgZ2
   refine so ?_
   let a0 : St := ⟨[(6, (vB false)), (0, (.d (.sl 6 (p0.map cGQuery)))), (1, (.d (.sl 6 (p1.map cGQuery)))), (2, (.fn 24 []))], []⟩
   refine st 1 a0 (nx (si (so ?_)))
   let a1 : St := a0.p [(10, (.d (.sl 6 (p0.map cGQuery))))]
   refine st 1 a1 (ps (vI (ln p0)) (vln (sz := 6) (l := p0) (f := cGQuery)) ?_)
   let a2 : St := a1.p [(12, (.d (.sl 6 (p1.map cGQuery)))), (11, (vI (ln p0)))]
   refine st 1 a2 (ps (vI (ln p1)) (vln (sz := 6) (l := p1) (f := cGQuery)) ?_)
   let a3 : St := a2.p [(14, (vB (!decide ((ln p0) = (ln p1))))), (13, (vI (ln p1)))]
   refine st 1 a3 (nx ?_)
   refine cd h (fun h => ?_) fun h => ?_
   refine so ?_
   let a4 : St := a3.p [(6, (vB false))]
   refine st 1 a4 (nx (ri (tr ?_)))
   injection h with h; subst h
   exact r1 (v := (vB false))
   refine ki (xi (si (so ?_)))
   let a5 : St := a3.p [(15, (.d (.sl 6 (p0.map cGQuery))))]
   refine st 1 a5 (ps (vI (ln p0)) (vln (sz := 6) (l := p0) (f := cGQuery)) ?_)
   let a6 : St := a5.p [(17, (vI 0)), (16, (vI (ln p0)))]
   exact st 1 a6 (nx (bi (loop_go (s' := stgZ2_L0 p1 p0 0) (wr [] (es (es (es (es (es er_nil))))) br_nil) (OK_gZ2_L0 p1 p0 0 _ h))))
 · intro F_gZ2_L0 F_iSameQuery OK_gZ2_L0 OK_iSameQuery p1 p0 x17 r h
   delta acgZ2_L0
   refine loop_unroll (so ?_)
   let a7 : St := (stgZ2_L0 p1 p0 x17).p [(18, (vB (decide (x17 < (ln p0)))))]
   refine st 1 a7 (nx (si ?_))
   refine cd h (fun h => ?_) fun h => ?_
   refine ki (xi (si (bi (so ?_))))
   let a8 : St := a7.p [(19, (vI x17))]
   refine st 1 a8 (vs (fun (y : GQuery) => (.rp (oGQuery y))) h (fun y hy => via (l := p0) (f := cGQuery) (g := oGQuery) (k := .i64) hy cGQuery_eq) fun y1 h => ?_)
   let a9 : St := ⟨(7, (vI x17)) :: (8, (.ptr 8 0)) :: (21, (vGQuery y1)) :: (20, (.rp (oGQuery y1))) :: a8.env, [(8, bGQuery y1)]⟩
   refine st 4 a9 (nx (so ?_))
   let a10 : St := a9.p [(23, (vI x17)), (22, (.d (.sl 6 (p1.map cGQuery))))]
   refine st 2 a10 (vs (fun (y : GQuery) => (.rp (oGQuery y))) h (fun y hy => via (l := p1) (f := cGQuery) (g := oGQuery) (k := .i64) hy cGQuery_eq) fun y2 h => ?_)
   let a11 : St := ⟨(9, (.ptr 9 0)) :: (25, (vGQuery y2)) :: (24, (.rp (oGQuery y2))) :: a10.env, [(9, bGQuery y2), (8, bGQuery y1)]⟩
   refine st 3 a11 (nx (so ?_))
   let a12 : St := a11.p [(28, (vGQuery y2)), (27, (vGQuery y1)), (26, (.fn 24 []))]
   refine st 3 a12 (callv_step (m := F_iSameQuery y1 y2) (caps := []) (args := [(vGQuery y1), (vGQuery y2)]) (v' := (fun y => (vB y))) h (by kernel_rfl) (by kernel_rfl) (OK_iSameQuery y1 y2) (by kernel_rfl) (by kernel_rfl) (fun _ => rfl) ?_)
   clear h; intro y3 h
   let a13 : St := a12.p [(30, (vB (!y3))), (29, (vB y3))]
   refine st 1 a13 (nx ?_)
   refine cd h (fun h => ?_) fun h => ?_
   refine so ?_
   let a14 : St := a13.p [(6, (vB false))]
   refine st 1 a14 (nx (ri (br (tr (tr (br (tr ?_)))))))
   injection h with h; subst h
   exact r1 (v := (vB false))
   refine ki (bn (xi (oi ?_)))
   let a15 : St := a13.p [(17, (vI (IntKind.wrap .i64 (x17 + 1)))), (31, (vI (IntKind.wrap .i64 (x17 + 1))))]
   exact st 2 a15 (ni (loop_back (s' := stgZ2_L0 p1 p0 (IntKind.wrap .i64 (x17 + 1))) (wr [] (es (es (es (es (es er_nil))))) br_nil) (OK_gZ2_L0 p1 p0 (IntKind.wrap .i64 (x17 + 1)) _ h)))
   refine ei (te (te (bh (xi (so ?_)))))
   let a16 : St := a7.p [(6, (vB true))]
   refine st 1 a16 (nx (ri ?_))
   injection h with h; subst h
   exact r1 (v := (vB true))
 · intro F_gZ0 F_iSameExprs F_gZ1 F_gZ3 OK_gZ0 OK_iSameExprs OK_gZ1 OK_gZ3 p0 p1 r h
   refine aof triSameQuery ?_
   show avc Tryz.prog aciSameQuery (qiSameQuery _) ⟨[(0, (vGQuery p0)), (1, (vGQuery p1))], []⟩
   delta aciSameQuery
   refine so ?_
   let a0 : St := ⟨[(4, (vB false)), (3, (.ptr 3 0)), (2, (.ptr 2 0)), (0, (vGQuery p0)), (1, (vGQuery p1))], [(3, bGQuery p1), (2, bGQuery p0)]⟩
   refine st 3 a0 (nx (so ?_))
   let a1 : St := a0.p [(5, (.fn 58 []))]
   refine st 1 a1 (nx (so ?_))
   let a2 : St := a1.p [(6, (.fn 60 []))]
   refine st 1 a2 (nx (so ?_))
   let a3 : St := a2.p [(7, (.fn 62 []))]
   refine st 1 a3 (nx (so ?_))
   let a4 : St := a3.p [(13, (vB (p0.distinct == p1.distinct))), (12, (vB (p0.distinct == p1.distinct))), (11, (vB p1.distinct)), (10, (.ptr 3 0)), (9, (vB p0.distinct)), (8, (.ptr 2 0))]
   refine st 6 a4 (gp true (p0.distinct == p1.distinct) (.ptr 2 5) (fun hc => vl) (gp true (p0.distinct == p1.distinct) (vI p0.limit) (fun hc => vg hc) (gp true (p0.distinct == p1.distinct) (.ptr 3 5) (fun hc => vl) (gp true (p0.distinct == p1.distinct) (vI p1.limit) (fun hc => vg hc) ?_))))
   refine gp true (p0.distinct == p1.distinct) (vB (decide (p0.limit = p1.limit))) (fun hc => vop_val1 (Eq.trans (b := ([(true && ((p0.distinct == p1.distinct) == true)), (true && ((p0.distinct == p1.distinct) == true))] : List Bool).all id) (by kernel_rfl) (all_c hc (all_c hc rfl))) (by kernel_rfl)) ?_
   refine vs (fun (y : Bool) => (vB y)) h (fun y hy => vop_pickV hy (p := (true && ((p0.distinct == p1.distinct) == true))) (q := true) (by kernel_rfl) (by kernel_rfl) (by kernel_rfl) (by kernel_rfl) (fun hb => gc_t rfl hb) (fun _ => rfl)) fun y1 h => ?_
   let a5 : St := a4.p [(20, (vB y1)), (19, (vB y1)), (18, (.ite (true && ((p0.distinct == p1.distinct) == true)) (vB (decide (p0.limit = p1.limit))))), (17, (.ite (true && ((p0.distinct == p1.distinct) == true)) (vI p1.limit))), (16, (.ite (true && ((p0.distinct == p1.distinct) == true)) (.ptr 3 5))), (15, (.ite (true && ((p0.distinct == p1.distinct) == true)) (vI p0.limit))), (14, (.ite (true && ((p0.distinct == p1.distinct) == true)) (.ptr 2 5)))]
   refine st 1 a5 (gp true y1 (.ptr 2 1) (fun hc => vl) (gp true y1 (.d (.sl 13 (p0.items.map cGItem))) (fun hc => vg hc) (gp true y1 (.ptr 3 1) (fun hc => vl) (gp true y1 (.d (.sl 13 (p1.items.map cGItem))) (fun hc => vg hc) (gp true y1 (.fn 58 []) (fun hc => vl) ?_)))))
   refine gcall_step (p := true) (b := y1) (m := F_gZ3 p0.items p1.items) (dflt := default) (args := [(.d (.sl 13 (p0.items.map cGItem))), (.d (.sl 13 (p1.items.map cGItem))), (.fn 58 [])]) (v' := (fun y => (vB y))) h (by kernel_rfl) (OK_gZ3 p0.items p1.items) (fun hc => by kernel_rfl) (by kernel_rfl) (fun _ => rfl) (fun hc => (Eq.trans (b := ([(true && (y1 == true)), (true && (y1 == true)), (true && (y1 == true))] : List Bool).all id) (by kernel_rfl) (all_c hc (all_c hc (all_c hc rfl))))) ?_
   clear h; intro y2 h
   refine vs (fun (y : Bool) => (vB y)) h (fun y hy => vop_pickV hy (p := (true && (y1 == true))) (q := true) (by kernel_rfl) (by kernel_rfl) (by kernel_rfl) (by kernel_rfl) (fun hb => gc_t rfl hb) (fun _ => rfl)) fun y3 h => ?_
   let a6 : St := a5.p [(28, (vB y3)), (27, (vB y3)), (26, (.ite (gT y1) (vB y2))), (25, (.ite (gT y1) (.fn 58 []))), (24, (.ite (gT y1) (.d (.sl 13 (p1.items.map cGItem))))), (23, (.ite (gT y1) (.ptr 3 1))), (22, (.ite (gT y1) (.d (.sl 13 (p0.items.map cGItem))))), (21, (.ite (gT y1) (.ptr 2 1)))]
   refine st 1 a6 (gp true y3 (.ptr 2 2) (fun hc => vl) (gp true y3 (.d (.sl 3 (p0.from_.map cGSource))) (fun hc => vg hc) (gp true y3 (.ptr 3 2) (fun hc => vl) (gp true y3 (.d (.sl 3 (p1.from_.map cGSource))) (fun hc => vg hc) (gp true y3 (.fn 60 []) (fun hc => vl) ?_)))))
   refine gcall_step (p := true) (b := y3) (m := F_gZ1 p0.from_ p1.from_) (dflt := default) (args := [(.d (.sl 3 (p0.from_.map cGSource))), (.d (.sl 3 (p1.from_.map cGSource))), (.fn 60 [])]) (v' := (fun y => (vB y))) h (by kernel_rfl) (OK_gZ1 p0.from_ p1.from_) (fun hc => by kernel_rfl) (by kernel_rfl) (fun _ => rfl) (fun hc => (Eq.trans (b := ([(true && (y3 == true)), (true && (y3 == true)), (true && (y3 == true))] : List Bool).all id) (by kernel_rfl) (all_c hc (all_c hc (all_c hc rfl))))) ?_
   clear h; intro y4 h
   refine vs (fun (y : Bool) => (vB y)) h (fun y hy => vop_pickV hy (p := (true && (y3 == true))) (q := true) (by kernel_rfl) (by kernel_rfl) (by kernel_rfl) (by kernel_rfl) (fun hb => gc_t rfl hb) (fun _ => rfl)) fun y5 h => ?_
   let a7 : St := a6.p [(36, (vB y5)), (35, (vB y5)), (34, (.ite (gT y3) (vB y4))), (33, (.ite (gT y3) (.fn 60 []))), (32, (.ite (gT y3) (.d (.sl 3 (p1.from_.map cGSource))))), (31, (.ite (gT y3) (.ptr 3 2))), (30, (.ite (gT y3) (.d (.sl 3 (p0.from_.map cGSource))))), (29, (.ite (gT y3) (.ptr 2 2)))]
   refine st 1 a7 (gp true y5 (.ptr 2 3) (fun hc => vl) (gp true y5 (.d (.sl 10 (p0.where_.map cGExpr))) (fun hc => vg hc) (gp true y5 (.ptr 3 3) (fun hc => vl) (gp true y5 (.d (.sl 10 (p1.where_.map cGExpr))) (fun hc => vg hc) ?_))))
   refine gcall_step (p := true) (b := y5) (m := F_iSameExprs p0.where_ p1.where_) (dflt := default) (args := [(.d (.sl 10 (p0.where_.map cGExpr))), (.d (.sl 10 (p1.where_.map cGExpr)))]) (v' := (fun y => (vB y))) h (by kernel_rfl) (OK_iSameExprs p0.where_ p1.where_) (fun hc => by kernel_rfl) (by kernel_rfl) (fun _ => rfl) (fun hc => (Eq.trans (b := ([(true && (y5 == true)), (true && (y5 == true))] : List Bool).all id) (by kernel_rfl) (all_c hc (all_c hc rfl)))) ?_
   clear h; intro y6 h
   refine vs (fun (y : Bool) => (vB y)) h (fun y hy => vop_pickV hy (p := (true && (y5 == true))) (q := true) (by kernel_rfl) (by kernel_rfl) (by kernel_rfl) (by kernel_rfl) (fun hb => gc_t rfl hb) (fun _ => rfl)) fun y7 h => ?_
   let a8 : St := a7.p [(43, (vB y7)), (42, (vB y7)), (41, (.ite (gT y5) (vB y6))), (40, (.ite (gT y5) (.d (.sl 10 (p1.where_.map cGExpr))))), (39, (.ite (gT y5) (.ptr 3 3))), (38, (.ite (gT y5) (.d (.sl 10 (p0.where_.map cGExpr))))), (37, (.ite (gT y5) (.ptr 2 3)))]
   refine st 1 a8 (gp true y7 (.ptr 2 4) (fun hc => vl) (gp true y7 (.d (.sl 11 (p0.order.map cGSortKey))) (fun hc => vg hc) (gp true y7 (.ptr 3 4) (fun hc => vl) (gp true y7 (.d (.sl 11 (p1.order.map cGSortKey))) (fun hc => vg hc) (gp true y7 (.fn 62 []) (fun hc => vl) ?_)))))
   refine gcall_step (p := true) (b := y7) (m := F_gZ0 p0.order p1.order) (dflt := default) (args := [(.d (.sl 11 (p0.order.map cGSortKey))), (.d (.sl 11 (p1.order.map cGSortKey))), (.fn 62 [])]) (v' := (fun y => (vB y))) h (by kernel_rfl) (OK_gZ0 p0.order p1.order) (fun hc => by kernel_rfl) (by kernel_rfl) (fun _ => rfl) (fun hc => (Eq.trans (b := ([(true && (y7 == true)), (true && (y7 == true)), (true && (y7 == true))] : List Bool).all id) (by kernel_rfl) (all_c hc (all_c hc (all_c hc rfl))))) ?_
   clear h; intro y8 h
   refine vs (fun (y : Bool) => (vB y)) h (fun y hy => vop_pickV hy (p := (true && (y7 == true))) (q := true) (by kernel_rfl) (by kernel_rfl) (by kernel_rfl) (by kernel_rfl) (fun hb => gc_t rfl hb) (fun _ => rfl)) fun y9 h => ?_
   let a9 : St := a8.p [(4, (vB y9)), (50, (vB y9)), (49, (.ite (gT y7) (vB y8))), (48, (.ite (gT y7) (.fn 62 []))), (47, (.ite (gT y7) (.d (.sl 11 (p1.order.map cGSortKey))))), (46, (.ite (gT y7) (.ptr 3 4))), (45, (.ite (gT y7) (.d (.sl 11 (p0.order.map cGSortKey))))), (44, (.ite (gT y7) (.ptr 2 4)))]
   refine st 1 a9 (nx (ri ?_))
   injection h with h; subst h
   exact r1 (v := (vB y9))
 · intro F_gZ0_L0 OK_gZ0_L0 p0 p1 r h
   refine aof trgZ0 ?_
   show avc Tryz.prog acgZ0 (qgZ0 _) ⟨[(0, (.d (.sl 11 (p0.map cGSortKey)))), (1, (.d (.sl 11 (p1.map cGSortKey)))), (2, (.fn 62 []))], []⟩
   delta acgZ0
   refine so ?_
   let a0 : St := ⟨[(6, (vB false)), (0, (.d (.sl 11 (p0.map cGSortKey)))), (1, (.d (.sl 11 (p1.map cGSortKey)))), (2, (.fn 62 []))], []⟩
   refine st 1 a0 (nx (si (so ?_)))
   let a1 : St := a0.p [(10, (.d (.sl 11 (p0.map cGSortKey))))]
   refine st 1 a1 (ps (vI (ln p0)) (vln (sz := 11) (l := p0) (f := cGSortKey)) ?_)
   let a2 : St := a1.p [(12, (.d (.sl 11 (p1.map cGSortKey)))), (11, (vI (ln p0)))]
   refine st 1 a2 (ps (vI (ln p1)) (vln (sz := 11) (l := p1) (f := cGSortKey)) ?_)
   let a3 : St := a2.p [(14, (vB (!decide ((ln p0) = (ln p1))))), (13, (vI (ln p1)))]
   refine st 1 a3 (nx ?_)
   refine cd h (fun h => ?_) fun h => ?_
   refine so ?_
   let a4 : St := a3.p [(6, (vB false))]
   refine st 1 a4 (nx (ri (tr ?_)))
   injection h with h; subst h
   exact r1 (v := (vB false))
   refine ki (xi (si (so ?_)))
   let a5 : St := a3.p [(15, (.d (.sl 11 (p0.map cGSortKey))))]
   refine st 1 a5 (ps (vI (ln p0)) (vln (sz := 11) (l := p0) (f := cGSortKey)) ?_)
   let a6 : St := a5.p [(17, (vI 0)), (16, (vI (ln p0)))]
   exact st 1 a6 (nx (bi (loop_go (s' := stgZ0_L0 p1 p0 0) (wr [] (es (es (es (es (es er_nil))))) br_nil) (OK_gZ0_L0 p1 p0 0 _ h))))
 · intro F_gZ0_L0 F_iSameQuery_3 OK_gZ0_L0 OK_iSameQuery_3 p1 p0 x17 r h
   delta acgZ0_L0
   refine loop_unroll (so ?_)
   let a7 : St := (stgZ0_L0 p1 p0 x17).p [(18, (vB (decide (x17 < (ln p0)))))]
   refine st 1 a7 (nx (si ?_))
   refine cd h (fun h => ?_) fun h => ?_
   refine ki (xi (si (bi (so ?_))))
   let a8 : St := a7.p [(19, (vI x17))]
   refine st 1 a8 (vs (fun (y : GSortKey) => (.rp (oGSortKey y))) h (fun y hy => via (l := p0) (f := cGSortKey) (g := oGSortKey) (k := .i64) hy cGSortKey_eq) fun y1 h => ?_)
   let a9 : St := ⟨(7, (vI x17)) :: (8, (.ptr 8 0)) :: (21, (vGSortKey y1)) :: (20, (.rp (oGSortKey y1))) :: a8.env, [(8, bGSortKey y1)]⟩
   refine st 4 a9 (nx (so ?_))
   let a10 : St := a9.p [(23, (vI x17)), (22, (.d (.sl 11 (p1.map cGSortKey))))]
   refine st 2 a10 (vs (fun (y : GSortKey) => (.rp (oGSortKey y))) h (fun y hy => via (l := p1) (f := cGSortKey) (g := oGSortKey) (k := .i64) hy cGSortKey_eq) fun y2 h => ?_)
   let a11 : St := ⟨(9, (.ptr 9 0)) :: (25, (vGSortKey y2)) :: (24, (.rp (oGSortKey y2))) :: a10.env, [(9, bGSortKey y2), (8, bGSortKey y1)]⟩
   refine st 3 a11 (nx (so ?_))
   let a12 : St := a11.p [(28, (vGSortKey y2)), (27, (vGSortKey y1)), (26, (.fn 62 []))]
   refine st 3 a12 (callv_step (m := F_iSameQuery_3 y1 y2) (caps := []) (args := [(vGSortKey y1), (vGSortKey y2)]) (v' := (fun y => (vB y))) h (by kernel_rfl) (by kernel_rfl) (OK_iSameQuery_3 y1 y2) (by kernel_rfl) (by kernel_rfl) (fun _ => rfl) ?_)
   clear h; intro y3 h
   let a13 : St := a12.p [(30, (vB (!y3))), (29, (vB y3))]
   refine st 1 a13 (nx ?_)
   refine cd h (fun h => ?_) fun h => ?_
   refine so ?_
   let a14 : St := a13.p [(6, (vB false))]
   refine st 1 a14 (nx (ri (br (tr (tr (br (tr ?_)))))))
   injection h with h; subst h
   exact r1 (v := (vB false))
   refine ki (bn (xi (oi ?_)))
   let a15 : St := a13.p [(17, (vI (IntKind.wrap .i64 (x17 + 1)))), (31, (vI (IntKind.wrap .i64 (x17 + 1))))]
   refine st 2 a15 (ni ?_)
   exact loop_back (s' := stgZ0_L0 p1 p0 (IntKind.wrap .i64 (x17 + 1))) (wr [] (es (es (es (es (es er_nil))))) br_nil) (OK_gZ0_L0 p1 p0 (IntKind.wrap .i64 (x17 + 1)) _ h)
   refine ei (te (te (bh (xi (so ?_)))))
   let a16 : St := a7.p [(6, (vB true))]
   refine st 1 a16 (nx (ri ?_))
   injection h with h; subst h
   exact r1 (v := (vB true))
 · intro F_iSameExpr OK_iSameExpr p0 p1 r h
   refine aof triSameQuery_3 ?_
   show avc Tryz.prog aciSameQuery_3 (qiSameQuery_3 _) ⟨[(0, (vGSortKey p0)), (1, (vGSortKey p1))], []⟩
   delta aciSameQuery_3
   refine so ?_
   let a0 : St := ⟨[(4, (vB false)), (3, (.ptr 3 0)), (2, (.ptr 2 0)), (0, (vGSortKey p0)), (1, (vGSortKey p1))], [(3, bGSortKey p1), (2, bGSortKey p0)]⟩
   refine st 3 a0 (nx (so ?_))
   let a1 : St := a0.p [(10, (vB (p0.desc == p1.desc))), (9, (vB (p0.desc == p1.desc))), (8, (vB p1.desc)), (7, (.ptr 3 10)), (6, (vB p0.desc)), (5, (.ptr 2 10))]
   refine st 6 a1 (gp true (p0.desc == p1.desc) (.ptr 2 0) (fun hc => vl) (gp true (p0.desc == p1.desc) (vGExpr p0.expr) (fun hc => vg hc) (gp true (p0.desc == p1.desc) (.ptr 3 0) (fun hc => vl) (gp true (p0.desc == p1.desc) (vGExpr p1.expr) (fun hc => vg hc) ?_))))
   refine gcall_step (p := true) (b := (p0.desc == p1.desc)) (m := F_iSameExpr p0.expr p1.expr) (dflt := default) (args := [(vGExpr p0.expr), (vGExpr p1.expr)]) (v' := (fun y => (vB y))) h (by kernel_rfl) (OK_iSameExpr p0.expr p1.expr) (fun hc => by kernel_rfl) (by kernel_rfl) (fun _ => rfl) (fun hc => (Eq.trans (b := ([(true && ((p0.desc == p1.desc) == true)), (true && ((p0.desc == p1.desc) == true))] : List Bool).all id) (by kernel_rfl) (all_c hc (all_c hc rfl)))) ?_
   clear h; intro y1 h
   refine vs (fun (y : Bool) => (vB y)) h (fun y hy => vop_pickV hy (p := (true && ((p0.desc == p1.desc) == true))) (q := true) (by kernel_rfl) (by kernel_rfl) (by kernel_rfl) (by kernel_rfl) (fun hb => gc_t rfl hb) (fun _ => rfl)) fun y2 h => ?_
   let a2 : St := a1.p [(4, (vB y2)), (16, (vB y2)), (15, (.ite (true && ((p0.desc == p1.desc) == true)) (vB y1))), (14, (.ite (true && ((p0.desc == p1.desc) == true)) (vGExpr p1.expr))), (13, (.ite (true && ((p0.desc == p1.desc) == true)) (.ptr 3 0))), (12, (.ite (true && ((p0.desc == p1.desc) == true)) (vGExpr p0.expr))), (11, (.ite (true && ((p0.desc == p1.desc) == true)) (.ptr 2 0)))]
   refine st 1 a2 (nx (ri ?_))
   injection h with h; subst h
   exact r1 (v := (vB y2))
 · intro F_gZ4 OK_gZ4 p0 p1 r h
   refine aof triSameExprs ?_
   show avc Tryz.prog aciSameExprs (qiSameExprs _) ⟨[(0, (.d (.sl 10 (p0.map cGExpr)))), (1, (.d (.sl 10 (p1.map cGExpr))))], []⟩
   delta aciSameExprs
   refine so ?_
   let a0 : St := ⟨[(4, (vB false)), (0, (.d (.sl 10 (p0.map cGExpr)))), (1, (.d (.sl 10 (p1.map cGExpr))))], []⟩
   refine st 1 a0 (nx (so ?_))
   let a1 : St := a0.p [(6, (.d (.sl 10 (p1.map cGExpr)))), (5, (.d (.sl 10 (p0.map cGExpr))))]
   refine st 2 a1 (cs h (OK_gZ4 p0 p1) fun y1 h => ?_)
   let a2 : St := a1.p [(4, (vB y1)), (7, (vB y1))]
   refine st 1 a2 (nx (ri ?_))
   injection h with h; subst h
   exact r1 (v := (vB y1))
 · intro F_gZ4_L0 OK_gZ4_L0 p0 p1 r h
   refine aof trgZ4 ?_
   show avc Tryz.prog acgZ4 (qgZ4 _) ⟨[(0, (.d (.sl 10 (p0.map cGExpr)))), (1, (.d (.sl 10 (p1.map cGExpr)))), (2, (.fn 59 []))], []⟩
   delta acgZ4
   refine so ?_
   let a0 : St := ⟨[(6, (vB false)), (0, (.d (.sl 10 (p0.map cGExpr)))), (1, (.d (.sl 10 (p1.map cGExpr)))), (2, (.fn 59 []))], []⟩
   refine st 1 a0 (nx (si (so ?_)))
   let a1 : St := a0.p [(10, (.d (.sl 10 (p0.map cGExpr))))]
   refine st 1 a1 (ps (vI (ln p0)) (vln (sz := 10) (l := p0) (f := cGExpr)) ?_)
   let a2 : St := a1.p [(12, (.d (.sl 10 (p1.map cGExpr)))), (11, (vI (ln p0)))]
   refine st 1 a2 (ps (vI (ln p1)) (vln (sz := 10) (l := p1) (f := cGExpr)) ?_)
   let a3 : St := a2.p [(14, (vB (!decide ((ln p0) = (ln p1))))), (13, (vI (ln p1)))]
   refine st 1 a3 (nx ?_)
   refine cd h (fun h => ?_) fun h => ?_
   refine so ?_
   let a4 : St := a3.p [(6, (vB false))]
   refine st 1 a4 (nx (ri (tr ?_)))
   injection h with h; subst h
   exact r1 (v := (vB false))
   refine ki (xi (si (so ?_)))
   let a5 : St := a3.p [(15, (.d (.sl 10 (p0.map cGExpr))))]
   refine st 1 a5 (ps (vI (ln p0)) (vln (sz := 10) (l := p0) (f := cGExpr)) ?_)
   let a6 : St := a5.p [(17, (vI 0)), (16, (vI (ln p0)))]
   exact st 1 a6 (nx (bi (loop_go (s' := stgZ4_L0 p1 p0 0) (wr [] (es (es (es (es (es er_nil))))) br_nil) (OK_gZ4_L0 p1 p0 0 _ h))))
 · intro F_gZ1_L0 OK_gZ1_L0 p0 p1 r h
   refine aof trgZ1 ?_
   show avc Tryz.prog acgZ1 (qgZ1 _) ⟨[(0, (.d (.sl 3 (p0.map cGSource)))), (1, (.d (.sl 3 (p1.map cGSource)))), (2, (.fn 60 []))], []⟩
   delta acgZ1
   refine so ?_
   let a0 : St := ⟨[(6, (vB false)), (0, (.d (.sl 3 (p0.map cGSource)))), (1, (.d (.sl 3 (p1.map cGSource)))), (2, (.fn 60 []))], []⟩
   refine st 1 a0 (nx (si (so ?_)))
   let a1 : St := a0.p [(10, (.d (.sl 3 (p0.map cGSource))))]
   refine st 1 a1 (ps (vI (ln p0)) (vln (sz := 3) (l := p0) (f := cGSource)) ?_)
   let a2 : St := a1.p [(12, (.d (.sl 3 (p1.map cGSource)))), (11, (vI (ln p0)))]
   refine st 1 a2 (ps (vI (ln p1)) (vln (sz := 3) (l := p1) (f := cGSource)) ?_)
   let a3 : St := a2.p [(14, (vB (!decide ((ln p0) = (ln p1))))), (13, (vI (ln p1)))]
   refine st 1 a3 (nx ?_)
   refine cd h (fun h => ?_) fun h => ?_
   refine so ?_
   let a4 : St := a3.p [(6, (vB false))]
   refine st 1 a4 (nx (ri (tr ?_)))
   injection h with h; subst h
   exact r1 (v := (vB false))
   refine ki (xi (si (so ?_)))
   let a5 : St := a3.p [(15, (.d (.sl 3 (p0.map cGSource))))]
   refine st 1 a5 (ps (vI (ln p0)) (vln (sz := 3) (l := p0) (f := cGSource)) ?_)
   let a6 : St := a5.p [(17, (vI 0)), (16, (vI (ln p0)))]
   exact st 1 a6 (nx (bi (loop_go (s' := stgZ1_L0 p1 p0 0) (wr [] (es (es (es (es (es er_nil))))) br_nil) (OK_gZ1_L0 p1 p0 0 _ h))))
 · intro F_gZ1_L0 F_iSameQuery_2 OK_gZ1_L0 OK_iSameQuery_2 p1 p0 x17 r h
   delta acgZ1_L0
   refine loop_unroll (so ?_)
   let a7 : St := (stgZ1_L0 p1 p0 x17).p [(18, (vB (decide (x17 < (ln p0)))))]
   refine st 1 a7 (nx (si ?_))
   refine cd h (fun h => ?_) fun h => ?_
   refine ki (xi (si (bi (so ?_))))
   let a8 : St := a7.p [(19, (vI x17))]
   refine st 1 a8 (vs (fun (y : GSource) => (.rp (oGSource y))) h (fun y hy => via (l := p0) (f := cGSource) (g := oGSource) (k := .i64) hy cGSource_eq) fun y1 h => ?_)
   let a9 : St := ⟨(7, (vI x17)) :: (8, (.ptr 8 0)) :: (21, (vGSource y1)) :: (20, (.rp (oGSource y1))) :: a8.env, [(8, bGSource y1)]⟩
   refine st 4 a9 (nx (so ?_))
   let a10 : St := a9.p [(23, (vI x17)), (22, (.d (.sl 3 (p1.map cGSource))))]
   refine st 2 a10 (vs (fun (y : GSource) => (.rp (oGSource y))) h (fun y hy => via (l := p1) (f := cGSource) (g := oGSource) (k := .i64) hy cGSource_eq) fun y2 h => ?_)
   let a11 : St := ⟨(9, (.ptr 9 0)) :: (25, (vGSource y2)) :: (24, (.rp (oGSource y2))) :: a10.env, [(9, bGSource y2), (8, bGSource y1)]⟩
   refine st 3 a11 (nx (so ?_))
   let a12 : St := a11.p [(28, (vGSource y2)), (27, (vGSource y1)), (26, (.fn 60 []))]
   refine st 3 a12 (callv_step (m := F_iSameQuery_2 y1 y2) (caps := []) (args := [(vGSource y1), (vGSource y2)]) (v' := (fun y => (vB y))) h (by kernel_rfl) (by kernel_rfl) (OK_iSameQuery_2 y1 y2) (by kernel_rfl) (by kernel_rfl) (fun _ => rfl) ?_)
   clear h; intro y3 h
   let a13 : St := a12.p [(30, (vB (!y3))), (29, (vB y3))]
   refine st 1 a13 (nx ?_)
   refine cd h (fun h => ?_) fun h => ?_
   refine so ?_
   let a14 : St := a13.p [(6, (vB false))]
   refine st 1 a14 (nx (ri (br (tr (tr (br (tr ?_)))))))
   injection h with h; subst h
   exact r1 (v := (vB false))
   refine ki (bn (xi (oi ?_)))
   let a15 : St := a13.p [(17, (vI (IntKind.wrap .i64 (x17 + 1)))), (31, (vI (IntKind.wrap .i64 (x17 + 1))))]
   exact st 2 a15 (ni (loop_back (s' := stgZ1_L0 p1 p0 (IntKind.wrap .i64 (x17 + 1))) (wr [] (es (es (es (es (es er_nil))))) br_nil) (OK_gZ1_L0 p1 p0 (IntKind.wrap .i64 (x17 + 1)) _ h)))
   refine ei (te (te (bh (xi (so ?_)))))
   let a16 : St := a7.p [(6, (vB true))]
   refine st 1 a16 (nx (ri ?_))
   injection h with h; subst h
   exact r1 (v := (vB true))
 · intro F_iSameExprs OK_iSameExprs p0 p1 r h
   refine aof triSameQuery_2 ?_
   show avc Tryz.prog aciSameQuery_2 (qiSameQuery_2 _) ⟨[(0, (vGSource p0)), (1, (vGSource p1))], []⟩
   delta aciSameQuery_2
   refine so ?_
   let a0 : St := ⟨[(4, (vB false)), (3, (.ptr 3 0)), (2, (.ptr 2 0)), (0, (vGSource p0)), (1, (vGSource p1))], [(3, bGSource p1), (2, bGSource p0)]⟩
   refine st 3 a0 (nx (so ?_))
   let a1 : St := a0.p [(10, (vB (decide (p0.table = p1.table)))), (9, (vB (decide (p0.table = p1.table)))), (8, (vS p1.table)), (7, (.ptr 3 0)), (6, (vS p0.table)), (5, (.ptr 2 0))]
   refine st 6 a1 (gp true (decide (p0.table = p1.table)) (.ptr 2 1) (fun hc => vl) (gp true (decide (p0.table = p1.table)) (vS p0.as_) (fun hc => vg hc) (gp true (decide (p0.table = p1.table)) (.ptr 3 1) (fun hc => vl) (gp true (decide (p0.table = p1.table)) (vS p1.as_) (fun hc => vg hc) ?_))))
   refine gp true (decide (p0.table = p1.table)) (vB (decide (p0.as_ = p1.as_))) (fun hc => vop_val1 (Eq.trans (b := ([(true && ((decide (p0.table = p1.table)) == true)), (true && ((decide (p0.table = p1.table)) == true))] : List Bool).all id) (by kernel_rfl) (all_c hc (all_c hc rfl))) (by kernel_rfl)) ?_
   refine vs (fun (y : Bool) => (vB y)) h (fun y hy => vop_pickV hy (p := (true && ((decide (p0.table = p1.table)) == true))) (q := true) (by kernel_rfl) (by kernel_rfl) (by kernel_rfl) (by kernel_rfl) (fun hb => gc_t rfl hb) (fun _ => rfl)) fun y1 h => ?_
   let a2 : St := a1.p [(17, (vB y1)), (16, (vB y1)), (15, (.ite (true && ((decide (p0.table = p1.table)) == true)) (vB (decide (p0.as_ = p1.as_))))), (14, (.ite (true && ((decide (p0.table = p1.table)) == true)) (vS p1.as_))), (13, (.ite (true && ((decide (p0.table = p1.table)) == true)) (.ptr 3 1))), (12, (.ite (true && ((decide (p0.table = p1.table)) == true)) (vS p0.as_))), (11, (.ite (true && ((decide (p0.table = p1.table)) == true)) (.ptr 2 1)))]
   refine st 1 a2 (gp true y1 (.ptr 2 2) (fun hc => vl) (gp true y1 (.d (.sl 10 (p0.on_.map cGExpr))) (fun hc => vg hc) (gp true y1 (.ptr 3 2) (fun hc => vl) (gp true y1 (.d (.sl 10 (p1.on_.map cGExpr))) (fun hc => vg hc) ?_))))
   refine gcall_step (p := true) (b := y1) (m := F_iSameExprs p0.on_ p1.on_) (dflt := default) (args := [(.d (.sl 10 (p0.on_.map cGExpr))), (.d (.sl 10 (p1.on_.map cGExpr)))]) (v' := (fun y => (vB y))) h (by kernel_rfl) (OK_iSameExprs p0.on_ p1.on_) (fun hc => by kernel_rfl) (by kernel_rfl) (fun _ => rfl) (fun hc => (Eq.trans (b := ([(true && (y1 == true)), (true && (y1 == true))] : List Bool).all id) (by kernel_rfl) (all_c hc (all_c hc rfl)))) ?_
   clear h; intro y2 h
   refine vs (fun (y : Bool) => (vB y)) h (fun y hy => vop_pickV hy (p := (true && (y1 == true))) (q := true) (by kernel_rfl) (by kernel_rfl) (by kernel_rfl) (by kernel_rfl) (fun hb => gc_t rfl hb) (fun _ => rfl)) fun y3 h => ?_
   let a3 : St := a2.p [(4, (vB y3)), (23, (vB y3)), (22, (.ite (gT y1) (vB y2))), (21, (.ite (gT y1) (.d (.sl 10 (p1.on_.map cGExpr))))), (20, (.ite (gT y1) (.ptr 3 2))), (19, (.ite (gT y1) (.d (.sl 10 (p0.on_.map cGExpr))))), (18, (.ite (gT y1) (.ptr 2 2)))]
   refine st 1 a3 (nx (ri ?_))
   injection h with h; subst h
   exact r1 (v := (vB y3))
 · intro F_gZ3_L0 OK_gZ3_L0 p0 p1 r h
   refine aof trgZ3 ?_
   show avc Tryz.prog acgZ3 (qgZ3 _) ⟨[(0, (.d (.sl 13 (p0.map cGItem)))), (1, (.d (.sl 13 (p1.map cGItem)))), (2, (.fn 58 []))], []⟩
   delta acgZ3
   refine so ?_
   let a0 : St := ⟨[(6, (vB false)), (0, (.d (.sl 13 (p0.map cGItem)))), (1, (.d (.sl 13 (p1.map cGItem)))), (2, (.fn 58 []))], []⟩
   refine st 1 a0 (nx (si (so ?_)))
   let a1 : St := a0.p [(10, (.d (.sl 13 (p0.map cGItem))))]
   refine st 1 a1 (ps (vI (ln p0)) (vln (sz := 13) (l := p0) (f := cGItem)) ?_)
   let a2 : St := a1.p [(12, (.d (.sl 13 (p1.map cGItem)))), (11, (vI (ln p0)))]
   refine st 1 a2 (ps (vI (ln p1)) (vln (sz := 13) (l := p1) (f := cGItem)) ?_)
   let a3 : St := a2.p [(14, (vB (!decide ((ln p0) = (ln p1))))), (13, (vI (ln p1)))]
   refine st 1 a3 (nx ?_)
   refine cd h (fun h => ?_) fun h => ?_
   refine so ?_
   let a4 : St := a3.p [(6, (vB false))]
   refine st 1 a4 (nx (ri (tr ?_)))
   injection h with h; subst h
   exact r1 (v := (vB false))
   refine ki (xi (si (so ?_)))
   let a5 : St := a3.p [(15, (.d (.sl 13 (p0.map cGItem))))]
   refine st 1 a5 (ps (vI (ln p0)) (vln (sz := 13) (l := p0) (f := cGItem)) ?_)
   let a6 : St := a5.p [(17, (vI 0)), (16, (vI (ln p0)))]
   exact st 1 a6 (nx (bi (loop_go (s' := stgZ3_L0 p1 p0 0) (wr [] (es (es (es (es (es er_nil))))) br_nil) (OK_gZ3_L0 p1 p0 0 _ h))))
 · intro F_gZ3_L0 F_iSameQuery_1 OK_gZ3_L0 OK_iSameQuery_1 p1 p0 x17 r h
   delta acgZ3_L0
   refine loop_unroll (so ?_)
   let a7 : St := (stgZ3_L0 p1 p0 x17).p [(18, (vB (decide (x17 < (ln p0)))))]
   refine st 1 a7 (nx (si ?_))
   refine cd h (fun h => ?_) fun h => ?_
   refine ki (xi (si (bi (so ?_))))
   let a8 : St := a7.p [(19, (vI x17))]
   refine st 1 a8 (vs (fun (y : GItem) => (.rp (oGItem y))) h (fun y hy => via (l := p0) (f := cGItem) (g := oGItem) (k := .i64) hy cGItem_eq) fun y1 h => ?_)
   let a9 : St := ⟨(7, (vI x17)) :: (8, (.ptr 8 0)) :: (21, (vGItem y1)) :: (20, (.rp (oGItem y1))) :: a8.env, [(8, bGItem y1)]⟩
   refine st 4 a9 (nx (so ?_))
   let a10 : St := a9.p [(23, (vI x17)), (22, (.d (.sl 13 (p1.map cGItem))))]
   refine st 2 a10 (vs (fun (y : GItem) => (.rp (oGItem y))) h (fun y hy => via (l := p1) (f := cGItem) (g := oGItem) (k := .i64) hy cGItem_eq) fun y2 h => ?_)
   let a11 : St := ⟨(9, (.ptr 9 0)) :: (25, (vGItem y2)) :: (24, (.rp (oGItem y2))) :: a10.env, [(9, bGItem y2), (8, bGItem y1)]⟩
   refine st 3 a11 (nx (so ?_))
   let a12 : St := a11.p [(28, (vGItem y2)), (27, (vGItem y1)), (26, (.fn 58 []))]
   refine st 3 a12 (callv_step (m := F_iSameQuery_1 y1 y2) (caps := []) (args := [(vGItem y1), (vGItem y2)]) (v' := (fun y => (vB y))) h (by kernel_rfl) (by kernel_rfl) (OK_iSameQuery_1 y1 y2) (by kernel_rfl) (by kernel_rfl) (fun _ => rfl) ?_)
   clear h; intro y3 h
   let a13 : St := a12.p [(30, (vB (!y3))), (29, (vB y3))]
   refine st 1 a13 (nx ?_)
   refine cd h (fun h => ?_) fun h => ?_
   refine so ?_
   let a14 : St := a13.p [(6, (vB false))]
   refine st 1 a14 (nx (ri (br (tr (tr (br (tr ?_)))))))
   injection h with h; subst h
   exact r1 (v := (vB false))
   refine ki (bn (xi (oi ?_)))
   let a15 : St := a13.p [(17, (vI (IntKind.wrap .i64 (x17 + 1)))), (31, (vI (IntKind.wrap .i64 (x17 + 1))))]
   exact st 2 a15 (ni (loop_back (s' := stgZ3_L0 p1 p0 (IntKind.wrap .i64 (x17 + 1))) (wr [] (es (es (es (es (es er_nil))))) br_nil) (OK_gZ3_L0 p1 p0 (IntKind.wrap .i64 (x17 + 1)) _ h)))
   refine ei (te (te (bh (xi (so ?_)))))
   let a16 : St := a7.p [(6, (vB true))]
   refine st 1 a16 (nx (ri ?_))
   injection h with h; subst h
   exact r1 (v := (vB true))
 · intro F_iSameExpr OK_iSameExpr p0 p1 r h
   refine aof triSameQuery_1 ?_
   show avc Tryz.prog aciSameQuery_1 (qiSameQuery_1 _) ⟨[(0, (vGItem p0)), (1, (vGItem p1))], []⟩
   delta aciSameQuery_1
   refine so ?_
   let a0 : St := ⟨[(4, (vB false)), (3, (.ptr 3 0)), (2, (.ptr 2 0)), (0, (vGItem p0)), (1, (vGItem p1))], [(3, bGItem p1), (2, bGItem p0)]⟩
   refine st 3 a0 (nx (so ?_))
   let a1 : St := a0.p [(10, (vB (p0.star == p1.star))), (9, (vB (p0.star == p1.star))), (8, (vB p1.star)), (7, (.ptr 3 0)), (6, (vB p0.star)), (5, (.ptr 2 0))]
   refine st 6 a1 (gp true (p0.star == p1.star) (.ptr 2 1) (fun hc => vl) (gp true (p0.star == p1.star) (vS p0.qual) (fun hc => vg hc) (gp true (p0.star == p1.star) (.ptr 3 1) (fun hc => vl) (gp true (p0.star == p1.star) (vS p1.qual) (fun hc => vg hc) ?_))))
   refine gp true (p0.star == p1.star) (vB (decide (p0.qual = p1.qual))) (fun hc => vop_val1 (Eq.trans (b := ([(true && ((p0.star == p1.star) == true)), (true && ((p0.star == p1.star) == true))] : List Bool).all id) (by kernel_rfl) (all_c hc (all_c hc rfl))) (by kernel_rfl)) ?_
   refine vs (fun (y : Bool) => (vB y)) h (fun y hy => vop_pickV hy (p := (true && ((p0.star == p1.star) == true))) (q := true) (by kernel_rfl) (by kernel_rfl) (by kernel_rfl) (by kernel_rfl) (fun hb => gc_t rfl hb) (fun _ => rfl)) fun y1 h => ?_
   let a2 : St := a1.p [(17, (vB y1)), (16, (vB y1)), (15, (.ite (true && ((p0.star == p1.star) == true)) (vB (decide (p0.qual = p1.qual))))), (14, (.ite (true && ((p0.star == p1.star) == true)) (vS p1.qual))), (13, (.ite (true && ((p0.star == p1.star) == true)) (.ptr 3 1))), (12, (.ite (true && ((p0.star == p1.star) == true)) (vS p0.qual))), (11, (.ite (true && ((p0.star == p1.star) == true)) (.ptr 2 1)))]
   refine st 1 a2 (gp true y1 (.ptr 2 12) (fun hc => vl) (gp true y1 (vS p0.as_) (fun hc => vg hc) (gp true y1 (.ptr 3 12) (fun hc => vl) (gp true y1 (vS p1.as_) (fun hc => vg hc) (gp true y1 (vB (decide (p0.as_ = p1.as_))) (fun hc => vop_val1 (Eq.trans (b := ([(true && (y1 == true)), (true && (y1 == true))] : List Bool).all id) (by kernel_rfl) (all_c hc (all_c hc rfl))) (by kernel_rfl)) ?_)))))
   refine vs (fun (y : Bool) => (vB y)) h (fun y hy => vop_pickV hy (p := (true && (y1 == true))) (q := true) (by kernel_rfl) (by kernel_rfl) (by kernel_rfl) (by kernel_rfl) (fun hb => gc_t rfl hb) (fun _ => rfl)) fun y2 h => ?_
   let a3 : St := a2.p [(24, (vB y2)), (23, (vB y2)), (22, (.ite (gT y1) (vB (decide (p0.as_ = p1.as_))))), (21, (.ite (gT y1) (vS p1.as_))), (20, (.ite (gT y1) (.ptr 3 12))), (19, (.ite (gT y1) (vS p0.as_))), (18, (.ite (gT y1) (.ptr 2 12)))]
   refine st 1 a3 (gp true y2 (.ptr 2 2) (fun hc => vl) (gp true y2 (vGExpr p0.expr) (fun hc => vg hc) (gp true y2 (.ptr 3 2) (fun hc => vl) (gp true y2 (vGExpr p1.expr) (fun hc => vg hc) ?_))))
   refine gcall_step (p := true) (b := y2) (m := F_iSameExpr p0.expr p1.expr) (dflt := default) (args := [(vGExpr p0.expr), (vGExpr p1.expr)]) (v' := (fun y => (vB y))) h (by kernel_rfl) (OK_iSameExpr p0.expr p1.expr) (fun hc => by kernel_rfl) (by kernel_rfl) (fun _ => rfl) (fun hc => (Eq.trans (b := ([(true && (y2 == true)), (true && (y2 == true))] : List Bool).all id) (by kernel_rfl) (all_c hc (all_c hc rfl)))) ?_
   clear h; intro y3 h
   refine vs (fun (y : Bool) => (vB y)) h (fun y hy => vop_pickV hy (p := (true && (y2 == true))) (q := true) (by kernel_rfl) (by kernel_rfl) (by kernel_rfl) (by kernel_rfl) (fun hb => gc_t rfl hb) (fun _ => rfl)) fun y4 h => ?_
   let a4 : St := a3.p [(4, (vB y4)), (30, (vB y4)), (29, (.ite (gT y2) (vB y3))), (28, (.ite (gT y2) (vGExpr p1.expr))), (27, (.ite (gT y2) (.ptr 3 2))), (26, (.ite (gT y2) (vGExpr p0.expr))), (25, (.ite (gT y2) (.ptr 2 2)))]
   refine st 1 a4 (nx (ri ?_))
   injection h with h; subst h
   exact r1 (v := (vB y4))
theorem OK_gZ4_L0 (p1 : (List GExpr)) (p0 : (List GExpr)) (x17 : Int) (r : Bool) (h : gZ4_L0 p1 p0 x17 = some r) : avc Tryz.prog acgZ4_L0 (qgZ4_1 r) (stgZ4_L0 p1 p0 x17) := (OKs_gZ4_L0).1 p1 p0 x17 r h
theorem OK_iSameExpr (p0 : GExpr) (p1 : GExpr) : FOk Tryz.prog 59 [(vGExpr p0), (vGExpr p1)] (fun y => (vB y)) (iSameExpr p0 p1) := fun r h => (OKs_gZ4_L0).2.1 p0 p1 r h
theorem OK_gZ2 (p0 : (List GQuery)) (p1 : (List GQuery)) : FOk Tryz.prog 94 [(.d (.sl 6 (p0.map cGQuery))), (.d (.sl 6 (p1.map cGQuery))), (.fn 24 [])] (fun y => (vB y)) (gZ2 p0 p1) := fun r h => (OKs_gZ4_L0).2.2.1 p0 p1 r h
theorem OK_gZ2_L0 (p1 : (List GQuery)) (p0 : (List GQuery)) (x17 : Int) (r : Bool) (h : gZ2_L0 p1 p0 x17 = some r) : avc Tryz.prog acgZ2_L0 (qgZ2_1 r) (stgZ2_L0 p1 p0 x17) := (OKs_gZ4_L0).2.2.2.1 p1 p0 x17 r h
theorem OK_iSameQuery (p0 : GQuery) (p1 : GQuery) : FOk Tryz.prog 24 [(vGQuery p0), (vGQuery p1)] (fun y => (vB y)) (iSameQuery p0 p1) := fun r h => (OKs_gZ4_L0).2.2.2.2.1 p0 p1 r h
theorem OK_gZ0 (p0 : (List GSortKey)) (p1 : (List GSortKey)) : FOk Tryz.prog 65 [(.d (.sl 11 (p0.map cGSortKey))), (.d (.sl 11 (p1.map cGSortKey))), (.fn 62 [])] (fun y => (vB y)) (gZ0 p0 p1) := fun r h => (OKs_gZ4_L0).2.2.2.2.2.1 p0 p1 r h
theorem OK_gZ0_L0 (p1 : (List GSortKey)) (p0 : (List GSortKey)) (x17 : Int) (r : Bool) (h : gZ0_L0 p1 p0 x17 = some r) : avc Tryz.prog acgZ0_L0 (qgZ0_1 r) (stgZ0_L0 p1 p0 x17) := (OKs_gZ4_L0).2.2.2.2.2.2.1 p1 p0 x17 r h
theorem OK_iSameQuery_3 (p0 : GSortKey) (p1 : GSortKey) : FOk Tryz.prog 62 [(vGSortKey p0), (vGSortKey p1)] (fun y => (vB y)) (iSameQuery_3 p0 p1) := fun r h => (OKs_gZ4_L0).2.2.2.2.2.2.2.1 p0 p1 r h
theorem OK_iSameExprs (p0 : (List GExpr)) (p1 : (List GExpr)) : FOk Tryz.prog 61 [(.d (.sl 10 (p0.map cGExpr))), (.d (.sl 10 (p1.map cGExpr)))] (fun y => (vB y)) (iSameExprs p0 p1) := fun r h => (OKs_gZ4_L0).2.2.2.2.2.2.2.2.1 p0 p1 r h
theorem OK_gZ4 (p0 : (List GExpr)) (p1 : (List GExpr)) : FOk Tryz.prog 95 [(.d (.sl 10 (p0.map cGExpr))), (.d (.sl 10 (p1.map cGExpr))), (.fn 59 [])] (fun y => (vB y)) (gZ4 p0 p1) := fun r h => (OKs_gZ4_L0).2.2.2.2.2.2.2.2.2.1 p0 p1 r h
theorem OK_gZ1 (p0 : (List GSource)) (p1 : (List GSource)) : FOk Tryz.prog 64 [(.d (.sl 3 (p0.map cGSource))), (.d (.sl 3 (p1.map cGSource))), (.fn 60 [])] (fun y => (vB y)) (gZ1 p0 p1) := fun r h => (OKs_gZ4_L0).2.2.2.2.2.2.2.2.2.2.1 p0 p1 r h
theorem OK_gZ1_L0 (p1 : (List GSource)) (p0 : (List GSource)) (x17 : Int) (r : Bool) (h : gZ1_L0 p1 p0 x17 = some r) : avc Tryz.prog acgZ1_L0 (qgZ1_1 r) (stgZ1_L0 p1 p0 x17) := (OKs_gZ4_L0).2.2.2.2.2.2.2.2.2.2.2.1 p1 p0 x17 r h
theorem OK_iSameQuery_2 (p0 : GSource) (p1 : GSource) : FOk Tryz.prog 60 [(vGSource p0), (vGSource p1)] (fun y => (vB y)) (iSameQuery_2 p0 p1) := fun r h => (OKs_gZ4_L0).2.2.2.2.2.2.2.2.2.2.2.2.1 p0 p1 r h
theorem OK_gZ3 (p0 : (List GItem)) (p1 : (List GItem)) : FOk Tryz.prog 63 [(.d (.sl 13 (p0.map cGItem))), (.d (.sl 13 (p1.map cGItem))), (.fn 58 [])] (fun y => (vB y)) (gZ3 p0 p1) := fun r h => (OKs_gZ4_L0).2.2.2.2.2.2.2.2.2.2.2.2.2.1 p0 p1 r h
theorem OK_gZ3_L0 (p1 : (List GItem)) (p0 : (List GItem)) (x17 : Int) (r : Bool) (h : gZ3_L0 p1 p0 x17 = some r) : avc Tryz.prog acgZ3_L0 (qgZ3_1 r) (stgZ3_L0 p1 p0 x17) := (OKs_gZ4_L0).2.2.2.2.2.2.2.2.2.2.2.2.2.2.1 p1 p0 x17 r h
theorem OK_iSameQuery_1 (p0 : GItem) (p1 : GItem) : FOk Tryz.prog 58 [(vGItem p0), (vGItem p1)] (fun y => (vB y)) (iSameQuery_1 p0 p1) := fun r h => (OKs_gZ4_L0).2.2.2.2.2.2.2.2.2.2.2.2.2.2.2 p0 p1 r h
theorem OK_iIsZero (p0 : GExpr) : FOk Tryz.prog 56 [(vGExpr p0)] (fun y => (vB y)) (iIsZero p0) := by
 intro r h
 rw [iIsZero] at h
 refine aof triIsZero ?_
 show avc Tryz.prog aciIsZero (qiIsZero _) ⟨[(0, (vGExpr p0))], []⟩
 delta aciIsZero
 refine so ?_
 let a0 : St := ⟨[(2, (vB false)), (1, (.ptr 1 0)), (0, (vGExpr p0))], [(1, bGExpr p0)]⟩
 refine st 2 a0 (nx (so ?_))
 let a1 : St := a0.p [(4, (vGExpr (GExpr.mk 0 0 false (GValue.mk 0 0 []) [] [] ([] : List GExpr) ([] : List GQuery)))), (3, (vGExpr p0))]
 refine st 2 a1 (cs h (OK_iSameExpr p0 (GExpr.mk 0 0 false (GValue.mk 0 0 []) [] [] ([] : List GExpr) ([] : List GQuery))) fun y1 h => ?_)
 let a2 : St := a1.p [(2, (vB y1)), (5, (vB y1))]
 refine st 1 a2 (nx (ri ?_))
 injection h with h; subst h
 exact r1 (v := (vB y1))
theorem OK_iValueOk (p0 : GValue) : FOk Tryz.prog 113 [(vGValue p0)] (fun y => (vB y)) (iValueOk p0) := by
 intro r h
 rw [iValueOk] at h
 refine aof triValueOk ?_
 show avc Tryz.prog aciValueOk (qiValueOk _) ⟨[(0, (vGValue p0))], []⟩
 delta aciValueOk
 refine so ?_
 let a0 : St := ⟨[(2, (vB false)), (1, (.ptr 1 0)), (0, (vGValue p0))], [(1, bGValue p0)]⟩
 refine st 2 a0 (nx (si (so ?_)))
 let a1 : St := a0.p [(4, (vI p0.kind)), (3, (.ptr 1 0))]
 refine st 2 a1 (nx (bi (so ?_)))
 let a2 : St := a1.p [(5, (vB (decide (p0.kind = 0)))), (6, (vB (decide (p0.kind = 0))))]
 refine st 2 a2 (nx ?_)
 refine cd h (fun h => ?_) fun h => ?_
 refine so ?_
 let a3 : St := a2.p [(10, (vB (decide (p0.num = 0)))), (9, (vB (decide (p0.num = 0)))), (8, (vI p0.num)), (7, (.ptr 1 1))]
 refine st 4 a3 (gp true (decide (p0.num = 0)) (.ptr 1 2) (fun hc => vl) (gp true (decide (p0.num = 0)) (vS p0.text) (fun hc => vg hc) (gp true (decide (p0.num = 0)) (vB (decide (p0.text = []))) (fun hc => vg hc) ?_)))
 refine vs (fun (y : Bool) => (vB y)) h (fun y hy => vop_pickV hy (p := (true && ((decide (p0.num = 0)) == true))) (q := true) (by kernel_rfl) (by kernel_rfl) (by kernel_rfl) (by kernel_rfl) (fun hb => gc_t rfl hb) (fun _ => rfl)) fun y1 h => ?_
 let a4 : St := a3.p [(2, (vB y1)), (14, (vB y1)), (13, (.ite (true && ((decide (p0.num = 0)) == true)) (vB (decide (p0.text = []))))), (12, (.ite (true && ((decide (p0.num = 0)) == true)) (vS p0.text))), (11, (.ite (true && ((decide (p0.num = 0)) == true)) (.ptr 1 2)))]
 refine st 1 a4 (nx (ri (br (tr ?_))))
 injection h with h; subst h
 exact r1 (v := (vB y1))
 refine so ?_
 let a5 : St := a2.p [(15, (vB (decide (p0.kind = 1)))), (16, (vB (decide (p0.kind = 1))))]
 refine st 2 a5 (nx ?_)
 refine cd h (fun h => ?_) fun h => ?_
 refine so ?_
 let a6 : St := a5.p [(2, (vB (decide (p0.text = [])))), (19, (vB (decide (p0.text = [])))), (18, (vS p0.text)), (17, (.ptr 1 2))]
 refine st 4 a6 (nx (ri (br (tr ?_))))
 injection h with h; subst h
 exact r1 (v := (vB (decide (p0.text = []))))
 refine so ?_
 let a7 : St := a5.p [(20, (vB (decide (p0.kind = 2)))), (21, (vB (decide (p0.kind = 2))))]
 refine st 2 a7 (nx ?_)
 refine cd h (fun h => ?_) fun h => ?_
 refine so ?_
 let a8 : St := a7.p [(25, (vB (decide (p0.num = 0)))), (24, (vB (decide (p0.num = 0)))), (23, (vI p0.num)), (22, (.ptr 1 1))]
 refine st 4 a8 (gp true (decide (p0.num = 0)) (.ptr 1 2) (fun hc => vl) (gp true (decide (p0.num = 0)) (vS p0.text) (fun hc => vg hc) (gp true (decide (p0.num = 0)) (vI (ln p0.text)) (fun hc => vg hc) (gp true (decide (p0.num = 0)) (vB (decide ((ln p0.text) ≤ 200))) (fun hc => vg hc) ?_))))
 refine vs (fun (y : Bool) => (vB y)) h (fun y hy => vop_pickV hy (p := (true && ((decide (p0.num = 0)) == true))) (q := true) (by kernel_rfl) (by kernel_rfl) (by kernel_rfl) (by kernel_rfl) (fun hb => gc_t rfl hb) (fun _ => rfl)) fun y2 h => ?_
 let a9 : St := a8.p [(2, (vB y2)), (30, (vB y2)), (29, (.ite (true && ((decide (p0.num = 0)) == true)) (vB (decide ((ln p0.text) ≤ 200))))), (28, (.ite (true && ((decide (p0.num = 0)) == true)) (vI (ln p0.text)))), (27, (.ite (true && ((decide (p0.num = 0)) == true)) (vS p0.text))), (26, (.ite (true && ((decide (p0.num = 0)) == true)) (.ptr 1 2)))]
 refine st 1 a9 (nx (ri (br (tr ?_))))
 injection h with h; subst h
 exact r1 (v := (vB y2))
 refine so ?_
 let a10 : St := a7.p [(31, (vB (decide (p0.kind = 3)))), (32, (vB (decide (p0.kind = 3))))]
 refine st 2 a10 (nx ?_)
 refine cd h (fun h => ?_) fun h => ?_
 refine so ?_
 let a11 : St := a10.p [(36, (vB (decide (p0.num = 0)))), (35, (vB (decide (p0.num = 0)))), (34, (vI p0.num)), (33, (.ptr 1 1))]
 refine st 4 a11 (gp true (decide (p0.num = 0)) (.ptr 1 1) (fun hc => vl) (gp true (decide (p0.num = 0)) (vI p0.num) (fun hc => vg hc) (gp true (decide (p0.num = 0)) (vB (decide (p0.num = 1))) (fun hc => vg hc) ?_)))
 refine vs (fun (y : Bool) => (vB y)) h (fun y hy => vop_pickV hy (p := true) (q := (true && ((decide (p0.num = 0)) == false))) (by kernel_rfl) (by kernel_rfl) (by kernel_rfl) (by kernel_rfl) (fun _ => rfl) (fun hb => gc_f rfl hb)) fun y3 h => ?_
 let a12 : St := a11.p [(41, (vB y3)), (40, (vB y3)), (39, (.ite (true && ((decide (p0.num = 0)) == false)) (vB (decide (p0.num = 1))))), (38, (.ite (true && ((decide (p0.num = 0)) == false)) (vI p0.num))), (37, (.ite (true && ((decide (p0.num = 0)) == false)) (.ptr 1 1)))]
 refine st 1 a12 (gp true y3 (.ptr 1 2) (fun hc => vl) (gp true y3 (vS p0.text) (fun hc => vg hc) (gp true y3 (vB (decide (p0.text = []))) (fun hc => vg hc) (vs (fun (y : Bool) => (vB y)) h (fun y hy => vop_pickV hy (p := (true && (y3 == true))) (q := true) (by kernel_rfl) (by kernel_rfl) (by kernel_rfl) (by kernel_rfl) (fun hb => gc_t rfl hb) (fun _ => rfl)) fun y4 h => ?_))))
 let a13 : St := a12.p [(2, (vB y4)), (45, (vB y4)), (44, (.ite (gT y3) (vB (decide (p0.text = []))))), (43, (.ite (gT y3) (vS p0.text))), (42, (.ite (gT y3) (.ptr 1 2)))]
 refine st 1 a13 (nx (ri (br (tr ?_))))
 injection h with h; subst h
 exact r1 (v := (vB y4))
 refine ki (bn (xi (so ?_)))
 let a14 : St := a10.p [(2, (vB false))]
 refine st 1 a14 (nx (ri ?_))
 injection h with h; subst h
 exact r1 (v := (vB false))
theorem OK_iIsLit (p0 : GValue) : FOk Tryz.prog 110 [(vGValue p0)] (fun y => (vB y)) (iIsLit p0) := by
 intro r h
 rw [iIsLit] at h
 refine aof triIsLit ?_
 show avc Tryz.prog aciIsLit (qiIsLit _) ⟨[(0, (vGValue p0))], []⟩
 delta aciIsLit
 refine so ?_
 let a0 : St := ⟨[(2, (vB false)), (1, (.ptr 1 0)), (0, (vGValue p0))], [(1, bGValue p0)]⟩
 refine st 2 a0 (nx (so ?_))
 let a1 : St := a0.p [(3, (vGValue p0))]
 refine st 1 a1 (cs h (OK_iValueOk p0) fun y1 h => ?_)
 let a2 : St := a1.p [(5, (vB y1)), (4, (vB y1))]
 refine st 1 a2 (gp true y1 (.ptr 1 0) (fun hc => vl) (gp true y1 (vI p0.kind) (fun hc => vg hc) (gp true y1 (vB (!decide (p0.kind = 1))) (fun hc => vg hc) (gp true y1 (vB (!decide (p0.kind = 1))) (fun hc => vg hc) (gp (true && (y1 == true)) (!decide (p0.kind = 1)) (.ptr 1 1) (fun hc => vl) (gp (true && (y1 == true)) (!decide (p0.kind = 1)) (vI p0.num) (fun hc => vg hc) ?_))))))
 refine gp (true && (y1 == true)) (!decide (p0.kind = 1)) (vB (decide (0 ≤ p0.num))) (fun hc => vg hc) ?_
 refine gv true y1 (fun (y : Bool) => (vB y)) h (fun y hy hc => vop_pickV hy (p := true) (q := ((true && (y1 == true)) && ((!decide (p0.kind = 1)) == false))) (Eq.trans (b := ([(true && (y1 == true))] : List Bool).all id) (by kernel_rfl) (all_c hc rfl)) (by kernel_rfl) (by kernel_rfl) (by kernel_rfl) (fun _ => rfl) (fun hb => gc_f hc hb)) fun y2 h => ?_
 refine vs (fun (y : Bool) => (vB y)) h (fun y hy => vop_pickV hy (p := (true && (y1 == true))) (q := true) (by kernel_rfl) (by kernel_rfl) (by kernel_rfl) (by kernel_rfl) (fun hb => gc_t rfl hb) (fun _ => rfl)) fun y3 h => ?_
 let a3 : St := a2.p [(15, (vB y3)), (14, (vB y3)), (13, (.ite (gT y1) (vB y2))), (12, (.ite ((gT y1) && ((!decide (p0.kind = 1)) == false)) (vB (decide (0 ≤ p0.num))))), (11, (.ite ((gT y1) && ((!decide (p0.kind = 1)) == false)) (vI p0.num))), (10, (.ite ((gT y1) && ((!decide (p0.kind = 1)) == false)) (.ptr 1 1))), (9, (.ite (gT y1) (vB (!decide (p0.kind = 1))))), (8, (.ite (gT y1) (vB (!decide (p0.kind = 1))))), (7, (.ite (gT y1) (vI p0.kind))), (6, (.ite (gT y1) (.ptr 1 0)))]
 refine st 1 a3 (gp true y3 (.ptr 1 2) (fun hc => vl) (gp true y3 (vS p0.text) (fun hc => vg hc) (gp true y3 (vI (ln p0.text)) (fun hc => vg hc) (gp true y3 (vB (decide ((ln p0.text) ≤ 40))) (fun hc => vg hc) ?_))))
 refine vs (fun (y : Bool) => (vB y)) h (fun y hy => vop_pickV hy (p := (true && (y3 == true))) (q := true) (by kernel_rfl) (by kernel_rfl) (by kernel_rfl) (by kernel_rfl) (fun hb => gc_t rfl hb) (fun _ => rfl)) fun y4 h => ?_
 let a4 : St := a3.p [(2, (vB y4)), (20, (vB y4)), (19, (.ite (gT y3) (vB (decide ((ln p0.text) ≤ 40))))), (18, (.ite (gT y3) (vI (ln p0.text)))), (17, (.ite (gT y3) (vS p0.text))), (16, (.ite (gT y3) (.ptr 1 2)))]
 refine st 1 a4 (nx (ri ?_))
 injection h with h; subst h
 exact r1 (v := (vB y4))
theorem OK_iFormOf (p0 : GExpr) : FOk Tryz.prog 97 [(vGExpr p0)] (fun y => (.tup [(vGForm y.1), (vB y.2)])) (iFormOf p0) := by
 intro r h
 rw [iFormOf] at h
 refine aof triFormOf ?_
 show avc Tryz.prog aciFormOf (qiFormOf _) ⟨[(0, (vGExpr p0))], []⟩
 delta aciFormOf
 refine so ?_
 let a0 : St := ⟨[(3, (vB false)), (2, (.ptr 2 0)), (1, (.ptr 1 0)), (0, (vGExpr p0))], [(2, [(vB false), (vB false), (vB false), (vB false), (vI 0), (vI 0), (vI 0)]), (1, bGExpr p0)]⟩
 refine st 3 a0 (nx (si (so ?_)))
 let a1 : St := a0.p [(5, (vI p0.kind)), (4, (.ptr 1 0))]
 refine st 2 a1 (nx (bi (so ?_)))
 let a2 : St := a1.p [(6, (vB (decide (p0.kind = 1)))), (7, (vB (decide (p0.kind = 1))))]
 refine st 2 a2 (nx ?_)
 refine cd h (fun h => ?_) fun h => ?_
 refine so ?_
 let a3 : St := a2.p [(10, (vGValue p0.value)), (9, (.ptr 1 3)), (8, (vGForm (GForm.mk false false true false 0 0 0)))]
 refine st 3 a3 (cs h (OK_iIsLit p0.value) fun y1 h => ?_)
 let a4 : St := ⟨(3, (vB y1)) :: (11, (vB y1)) :: a3.env, [(2, bGForm (GForm.mk false false true false 0 0 0)), (1, bGExpr p0)]⟩
 refine st 2 a4 (nx (ri (br (tr ?_))))
 injection h with h; subst h
 exact retn_step (vs := [(vGForm (GForm.mk false false true false 0 0 0)), (vB y1)]) (by kernel_rfl) (by kernel_rfl)
 refine so ?_
 let a5 : St := a2.p [(12, (vB (decide (p0.kind = 2)))), (13, (vB (decide (p0.kind = 2))))]
 refine st 2 a5 (nx ?_)
 refine cd h (fun h => ?_) fun h => ?_
 refine so ?_
 let a6 : St := a5.p [(16, (vS p0.name)), (15, (.ptr 1 7)), (14, (vGForm (GForm.mk false false false true 0 0 0)))]
 refine st 3 a6 (cs h (OK_iNameOk p0.name) fun y2 h => ?_)
 let a7 : St := a6.p [(18, (vB y2)), (17, (vB y2))]
 refine st 1 a7 (gp true y2 (.ptr 1 6) (fun hc => vl) (gp true y2 (vS p0.qual) (fun hc => vg hc) (gp true y2 (vB (decide (p0.qual = []))) (fun hc => vg hc) (gp true y2 (vB (decide (p0.qual = []))) (fun hc => vg hc) (gp (true && (y2 == true)) (decide (p0.qual = [])) (.ptr 1 6) (fun hc => vl) ?_)))))
 refine gp (true && (y2 == true)) (decide (p0.qual = [])) (vS p0.qual) (fun hc => vop_val1 (Eq.trans (b := ([((true && (y2 == true)) && ((decide (p0.qual = [])) == false))] : List Bool).all id) (by kernel_rfl) (all_c hc rfl)) (by kernel_rfl)) ?_
 refine gcall_step (p := (true && (y2 == true))) (b := (decide (p0.qual = []))) (m := iNameOk p0.qual) (dflt := default) (args := [(vS p0.qual)]) (v' := (fun y => (vB y))) h (by kernel_rfl) (OK_iNameOk p0.qual) (fun hc => by kernel_rfl) (by kernel_rfl) (fun _ => rfl) (fun hc => (Eq.trans (b := ([((true && (y2 == true)) && ((decide (p0.qual = [])) == false))] : List Bool).all id) (by kernel_rfl) (all_c hc rfl))) ?_
 clear h; intro y3 h
 refine gv true y2 (fun (y : Bool) => (vB y)) h (fun y hy hc => vop_pickV hy (p := true) (q := ((true && (y2 == true)) && ((decide (p0.qual = [])) == false))) (Eq.trans (b := ([(true && (y2 == true))] : List Bool).all id) (by kernel_rfl) (all_c hc rfl)) (by kernel_rfl) (by kernel_rfl) (by kernel_rfl) (fun _ => rfl) (fun hb => gc_f hc hb)) fun y4 h => ?_
 refine vs (fun (y : Bool) => (vB y)) h (fun y hy => vop_pickV hy (p := (true && (y2 == true))) (q := true) (by kernel_rfl) (by kernel_rfl) (by kernel_rfl) (by kernel_rfl) (fun hb => gc_t rfl hb) (fun _ => rfl)) fun y5 h => ?_
 let a8 : St := ⟨(3, (vB y5)) :: (27, (vB y5)) :: (26, (.ite (gT y2) (vB y4))) :: (25, (.ite ((gT y2) && ((decide (p0.qual = [])) == false)) (vB y3))) :: (24, (.ite ((gT y2) && ((decide (p0.qual = [])) == false)) (vS p0.qual))) :: (23, (.ite ((gT y2) && ((decide (p0.qual = [])) == false)) (.ptr 1 6))) :: (22, (.ite (gT y2) (vB (decide (p0.qual = []))))) :: (21, (.ite (gT y2) (vB (decide (p0.qual = []))))) :: (20, (.ite (gT y2) (vS p0.qual))) :: (19, (.ite (gT y2) (.ptr 1 6))) :: a7.env, [(2, bGForm (GForm.mk false false false true 0 0 0)), (1, bGExpr p0)]⟩
 refine st 2 a8 (nx (ri (br (tr ?_))))
 injection h with h; subst h
 exact retn_step (vs := [(vGForm (GForm.mk false false false true 0 0 0)), (vB y5)]) (by kernel_rfl) (by kernel_rfl)
 refine so ?_
 let a9 : St := a5.p [(28, (vB (decide (p0.kind = 3)))), (29, (vB (decide (p0.kind = 3))))]
 refine st 2 a9 (nx ?_)
 refine cd h (fun h => ?_) fun h => ?_
 refine si (dops_in ?_)
 let a10 : St := a9.p [(34, (vB (decide (p0.op = 15)))), (33, (vB (decide (p0.op = 15)))), (32, (vI p0.op)), (31, (.ptr 1 1)), (30, (vGForm (GForm.mk true false false false 1 1 0)))]
 refine dsts_ok 5 (s' := a10) (by kernel_rfl) (dgp_step (p := true) (b := (decide (p0.op = 15))) (v' := (.ptr 1 1)) (by kernel_rfl) rfl rfl (fun hc => vl) (dgp_step (p := true) (b := (decide (p0.op = 15))) (v' := (vI p0.op)) (by kernel_rfl) rfl rfl (fun hc => vg hc) (dgp_step (p := true) (b := (decide (p0.op = 15))) (v' := (vB (decide (p0.op = 16)))) (by kernel_rfl) rfl rfl (fun hc => vg hc) ?_)))
 refine dv_step (m := some (if (decide (p0.op = 15)) = true then true else (decide (p0.op = 16)))) (v' := fun y => (vB y)) h rfl rfl (fun y hy => vop_pickV hy (p := true) (q := (true && ((decide (p0.op = 15)) == false))) (by kernel_rfl) (by kernel_rfl) (by kernel_rfl) (by kernel_rfl) (fun _ => rfl) (fun hb => gc_f rfl hb)) ?_
 clear h; intro y6 h
 let a11 : St := ⟨(3, (vB y6)) :: (38, (vB y6)) :: (37, (.ite (true && ((decide (p0.op = 15)) == false)) (vB (decide (p0.op = 16))))) :: (36, (.ite (true && ((decide (p0.op = 15)) == false)) (vI p0.op))) :: (35, (.ite (true && ((decide (p0.op = 15)) == false)) (.ptr 1 1))) :: a10.env, [(2, bGForm (GForm.mk true false false false 1 1 0)), (1, bGExpr p0)]⟩
 refine dsts_ok 2 (s' := a11) (by kernel_rfl) (dnil_in (by kernel_rfl) (by kernel_rfl) (xi (ri (br (tr ?_)))))
 injection h with h; subst h
 exact retn_step (vs := [(vGForm (GForm.mk true false false false 1 1 0)), (vB y6)]) (by kernel_rfl) (by kernel_rfl)
 refine so ?_
 let a12 : St := a9.p [(39, (vB (decide (p0.kind = 4)))), (40, (vB (decide (p0.kind = 4))))]
 refine st 2 a12 (nx ?_)
 refine cd h (fun h => ?_) fun h => ?_
 refine si (dops_in ?_)
 let a13 : St := a12.p [(45, (vB (decide (1 ≤ p0.op)))), (44, (vB (decide (1 ≤ p0.op)))), (43, (vI p0.op)), (42, (.ptr 1 1)), (41, (vGForm (GForm.mk true false false false 2 2 0)))]
 refine dsts_ok 5 (s' := a13) (by kernel_rfl) (dgp_step (p := true) (b := (decide (1 ≤ p0.op))) (v' := (.ptr 1 1)) (by kernel_rfl) rfl rfl (fun hc => vl) (dgp_step (p := true) (b := (decide (1 ≤ p0.op))) (v' := (vI p0.op)) (by kernel_rfl) rfl rfl (fun hc => vg hc) (dgp_step (p := true) (b := (decide (1 ≤ p0.op))) (v' := (vB (decide (p0.op ≤ 14)))) (by kernel_rfl) rfl rfl (fun hc => vg hc) ?_)))
 refine dv_step (m := some (if (decide (1 ≤ p0.op)) = true then (decide (p0.op ≤ 14)) else false)) (v' := fun y => (vB y)) h rfl rfl (fun y hy => vop_pickV hy (p := (true && ((decide (1 ≤ p0.op)) == true))) (q := true) (by kernel_rfl) (by kernel_rfl) (by kernel_rfl) (by kernel_rfl) (fun hb => gc_t rfl hb) (fun _ => rfl)) ?_
 clear h; intro y7 h
 let a14 : St := ⟨(3, (vB y7)) :: (49, (vB y7)) :: (48, (.ite (true && ((decide (1 ≤ p0.op)) == true)) (vB (decide (p0.op ≤ 14))))) :: (47, (.ite (true && ((decide (1 ≤ p0.op)) == true)) (vI p0.op))) :: (46, (.ite (true && ((decide (1 ≤ p0.op)) == true)) (.ptr 1 1))) :: a13.env, [(2, bGForm (GForm.mk true false false false 2 2 0)), (1, bGExpr p0)]⟩
 refine dsts_ok 2 (s' := a14) (by kernel_rfl) (dnil_in (by kernel_rfl) (by kernel_rfl) (xi (ri (br (tr ?_)))))
 injection h with h; subst h
 exact retn_step (vs := [(vGForm (GForm.mk true false false false 2 2 0)), (vB y7)]) (by kernel_rfl) (by kernel_rfl)
 refine so ?_
 let a15 : St := a12.p [(50, (vB (decide (p0.kind = 5)))), (51, (vB (decide (p0.kind = 5))))]
 refine st 2 a15 (nx ?_)
 refine cd h (fun h => ?_) fun h => ?_
 refine so ?_
 let a16 : St := ⟨(3, (vB true)) :: (52, (vGForm (GForm.mk false true false false 1 1 0))) :: a15.env, [(2, bGForm (GForm.mk false true false false 1 1 0)), (1, bGExpr p0)]⟩
 refine st 3 a16 (nx (ri (br (tr ?_))))
 injection h with h; subst h
 exact retn_step (vs := [(vGForm (GForm.mk false true false false 1 1 0)), (vB true)]) (by kernel_rfl) (by kernel_rfl)
 refine so ?_
 let a17 : St := a15.p [(53, (vB (decide (p0.kind = 6)))), (54, (vB (decide (p0.kind = 6))))]
 refine st 2 a17 (nx ?_)
 refine cd h (fun h => ?_) fun h => ?_
 refine so ?_
 let a18 : St := ⟨(3, (vB true)) :: (55, (vGForm (GForm.mk false true false false 3 3 0))) :: a17.env, [(2, bGForm (GForm.mk false true false false 3 3 0)), (1, bGExpr p0)]⟩
 refine st 3 a18 (nx (ri (br (tr ?_))))
 injection h with h; subst h
 exact retn_step (vs := [(vGForm (GForm.mk false true false false 3 3 0)), (vB true)]) (by kernel_rfl) (by kernel_rfl)
 refine so ?_
 let a19 : St := a17.p [(56, (vB (decide (p0.kind = 7)))), (57, (vB (decide (p0.kind = 7))))]
 refine st 2 a19 (nx ?_)
 refine cd h (fun h => ?_) fun h => ?_
 refine so ?_
 let a20 : St := ⟨(3, (vB true)) :: (58, (vGForm (GForm.mk false true false false 2 9 0))) :: a19.env, [(2, bGForm (GForm.mk false true false false 2 9 0)), (1, bGExpr p0)]⟩
 refine st 3 a20 (nx (ri (br (tr ?_))))
 injection h with h; subst h
 exact retn_step (vs := [(vGForm (GForm.mk false true false false 2 9 0)), (vB true)]) (by kernel_rfl) (by kernel_rfl)
 refine so ?_
 let a21 : St := a19.p [(59, (vB (decide (p0.kind = 8)))), (60, (vB (decide (p0.kind = 8))))]
 refine st 2 a21 (nx ?_)
 refine cd h (fun h => ?_) fun h => ?_
 refine so ?_
 let a22 : St := ⟨(3, (vB true)) :: (61, (vGForm (GForm.mk false true false false 1 1 1))) :: a21.env, [(2, bGForm (GForm.mk false true false false 1 1 1)), (1, bGExpr p0)]⟩
 refine st 3 a22 (nx (ri (br (tr ?_))))
 injection h with h; subst h
 exact retn_step (vs := [(vGForm (GForm.mk false true false false 1 1 1)), (vB true)]) (by kernel_rfl) (by kernel_rfl)
 refine so ?_
 let a23 : St := a21.p [(62, (vB (decide (p0.kind = 9)))), (63, (vB (decide (p0.kind = 9))))]
 refine st 2 a23 (nx ?_)
 refine cd h (fun h => ?_) fun h => ?_
 refine so ?_
 let a24 : St := ⟨(3, (vB true)) :: (64, (vGForm (GForm.mk false false false false 0 0 1))) :: a23.env, [(2, bGForm (GForm.mk false false false false 0 0 1)), (1, bGExpr p0)]⟩
 refine st 3 a24 (nx (ri (br (tr ?_))))
 injection h with h; subst h
 exact retn_step (vs := [(vGForm (GForm.mk false false false false 0 0 1)), (vB true)]) (by kernel_rfl) (by kernel_rfl)
 refine ki (bn (xi (so ?_)))
 let a25 : St := ⟨(3, (vB false)) :: (65, (vGForm (GForm.mk false false false false 0 0 0))) :: a23.env, [(2, bGForm (GForm.mk false false false false 0 0 0)), (1, bGExpr p0)]⟩
 refine st 3 a25 (nx (ri ?_))
 injection h with h; subst h
 exact retn_step (vs := [(vGForm (GForm.mk false false false false 0 0 0)), (vB false)]) (by kernel_rfl) (by kernel_rfl)
theorem OKs_iIsFormedQuery_L1 : (∀ (p0 : GQuery) (x92 : Int) (r : Bool), iIsFormedQuery_L1 p0 x92 = some r → avc Tryz.prog aciIsFormedQuery_L1 (qiIsFormedQuery_3 r) (stiIsFormedQuery_L1 p0 x92)) ∧ (∀ (p0 : (List GExpr)) (r : Bool), iAreFormed p0 = some r → ACalls Tryz.prog 26 [(.d (.sl 10 (p0.map cGExpr)))] [] fun x _ => x = (fun y => (vB y)) r) ∧ (∀ (p0 : (List GExpr)) (r : Bool), gZ6 p0 = some r → ACalls Tryz.prog 66 [(.d (.sl 10 (p0.map cGExpr))), (.fn 67 [])] [] fun x _ => x = (fun y => (vB y)) r) ∧ (∀ (p0 : (List GExpr)) (r : Int), gZ9 p0 = some r → ACalls Tryz.prog 96 [(.d (.sl 10 (p0.map cGExpr))), (.fn 67 [])] [] fun x _ => x = (fun y => (vI y)) r) ∧ (∀ (p0 : (List GExpr)) (x8 : Int) (r : Int), gZ9_L0 p0 x8 = some r → avc Tryz.prog acgZ9_L0 (qgZ9_1 r) (stgZ9_L0 p0 x8)) ∧ (∀ (p0 : GExpr) (r : Bool), iAreFormed_1 p0 = some r → ACalls Tryz.prog 67 [(vGExpr p0)] [] fun x _ => x = (fun y => (vB y)) r) ∧ (∀ (p0 : GExpr) (r : Bool), iIsFormed p0 = some r → ACalls Tryz.prog 68 [(vGExpr p0)] [] fun x _ => x = (fun y => (vB y)) r) ∧ (∀ (p0 : (List GQuery)) (r : Bool), gZ5 p0 = some r → ACalls Tryz.prog 98 [(.d (.sl 6 (p0.map cGQuery))), (.fn 99 [])] [] fun x _ => x = (fun y => (vB y)) r) ∧ (∀ (p0 : (List GQuery)) (r : Int), gZ8 p0 = some r → ACalls Tryz.prog 111 [(.d (.sl 6 (p0.map cGQuery))), (.fn 99 [])] [] fun x _ => x = (fun y => (vI y)) r) ∧ (∀ (p0 : (List GQuery)) (x8 : Int) (r : Int), gZ8_L0 p0 x8 = some r → avc Tryz.prog acgZ8_L0 (qgZ8_1 r) (stgZ8_L0 p0 x8)) ∧ (∀ (p0 : GQuery) (r : Bool), iIsFormed_1 p0 = some r → ACalls Tryz.prog 99 [(vGQuery p0)] [] fun x _ => x = (fun y => (vB y)) r) ∧ (∀ (p0 : GQuery) (r : Bool), iIsFormedQuery p0 = some r → ACalls Tryz.prog 23 [(vGQuery p0)] [] fun x _ => x = (fun y => (vB y)) r) ∧ (∀ (p0 : GQuery) (x49 : Int) (r : Bool), iIsFormedQuery_L0 p0 x49 = some r → avc Tryz.prog aciIsFormedQuery_L0 (qiIsFormedQuery_1 r) (stiIsFormedQuery_L0 p0 x49)) := by
 refine iIsFormedQuery_L1.mutual_partial_correctness (fun p0 x92 r => avc Tryz.prog aciIsFormedQuery_L1 (qiIsFormedQuery_3 r) (stiIsFormedQuery_L1 p0 x92)) (fun p0 r => ACalls Tryz.prog 26 [(.d (.sl 10 (p0.map cGExpr)))] [] fun x _ => x = (fun y => (vB y)) r) (fun p0 r => ACalls Tryz.prog 66 [(.d (.sl 10 (p0.map cGExpr))), (.fn 67 [])] [] fun x _ => x = (fun y => (vB y)) r) (fun p0 r => ACalls Tryz.prog 96 [(.d (.sl 10 (p0.map cGExpr))), (.fn 67 [])] [] fun x _ => x = (fun y => (vI y)) r) (fun p0 x8 r => avc Tryz.prog acgZ9_L0 (qgZ9_1 r) (stgZ9_L0 p0 x8)) (fun p0 r => ACalls Tryz.prog 67 [(vGExpr p0)] [] fun x _ => x = (fun y => (vB y)) r) (fun p0 r => ACalls Tryz.prog 68 [(vGExpr p0)] [] fun x _ => x = (fun y => (vB y)) r) (fun p0 r => ACalls Tryz.prog 98 [(.d (.sl 6 (p0.map cGQuery))), (.fn 99 [])] [] fun x _ => x = (fun y => (vB y)) r) (fun p0 r => ACalls Tryz.prog 111 [(.d (.sl 6 (p0.map cGQuery))), (.fn 99 [])] [] fun x _ => x = (fun y => (vI y)) r) (fun p0 x8 r => avc Tryz.prog acgZ8_L0 (qgZ8_1 r) (stgZ8_L0 p0 x8)) (fun p0 r => ACalls Tryz.prog 99 [(vGQuery p0)] [] fun x _ => x = (fun y => (vB y)) r) (fun p0 r => ACalls Tryz.prog 23 [(vGQuery p0)] [] fun x _ => x = (fun y => (vB y)) r) (fun p0 x49 r => avc Tryz.prog aciIsFormedQuery_L0 (qiIsFormedQuery_1 r) (stiIsFormedQuery_L0 p0 x49)) ?_ ?_ ?_ ?_ ?_ ?_ ?_ ?_ ?_ ?_ ?_ ?_ ?_
 · intro F_iIsFormedQuery_L1 F_iAreFormed OK_iIsFormedQuery_L1 OK_iAreFormed p0 x92 r h
   delta aciIsFormedQuery_L1
   refine loop_unroll (so ?_)
   let a19 : St := (stiIsFormedQuery_L1 p0 x92).p [(93, (vB (decide (x92 < (ln p0.from_)))))]
   refine st 1 a19 (nx (si ?_))
   refine cd h (fun h => ?_) fun h => ?_
   refine ki (xi (si (bi (so ?_))))
   let a20 : St := a19.p [(94, (vI x92))]
   refine st 1 a20 (vs (fun (y : GSource) => (.rp (oGSource y))) h (fun y hy => via (l := p0.from_) (f := cGSource) (g := oGSource) (k := .i64) hy cGSource_eq) fun y17 h => ?_)
   let a21 : St := ⟨(5, (vI x92)) :: (6, (.ptr 6 0)) :: (96, (vGSource y17)) :: (95, (.rp (oGSource y17))) :: a20.env, [(6, bGSource y17), (1, bGQuery p0)]⟩
   refine st 4 a21 (nx (so ?_))
   let a22 : St := a21.p [(98, (vS y17.table)), (97, (.ptr 6 0))]
   refine st 2 a22 (cs h (OK_iNameOk y17.table) fun y18 h => ?_)
   let a23 : St := a22.p [(101, (vB (!y18))), (100, (vB (!y18))), (99, (vB y18))]
   refine st 2 a23 (gp true (!y18) (.ptr 6 1) (fun hc => vl) (gp true (!y18) (vS y17.as_) (fun hc => vg hc) ?_))
   refine gcall_step (p := true) (b := (!y18)) (m := iIsAs y17.as_) (dflt := default) (args := [(vS y17.as_)]) (v' := (fun y => (vB y))) h (by kernel_rfl) (OK_iIsAs y17.as_) (fun hc => by kernel_rfl) (by kernel_rfl) (fun _ => rfl) (fun hc => (Eq.trans (b := ([(true && ((!y18) == false))] : List Bool).all id) (by kernel_rfl) (all_c hc rfl))) ?_
   clear h; intro y19 h
   refine gp true (!y18) (vB (!y19)) (fun hc => vg hc) (vs (fun (y : Bool) => (vB y)) h (fun y hy => vop_pickV hy (p := true) (q := (true && ((!y18) == false))) (by kernel_rfl) (by kernel_rfl) (by kernel_rfl) (by kernel_rfl) (fun _ => rfl) (fun hb => gc_f rfl hb)) fun y20 h => ?_)
   let a24 : St := a23.p [(107, (vB y20)), (106, (vB y20)), (105, (.ite (true && ((!y18) == false)) (vB (!y19)))), (104, (.ite (true && ((!y18) == false)) (vB y19))), (103, (.ite (true && ((!y18) == false)) (vS y17.as_))), (102, (.ite (true && ((!y18) == false)) (.ptr 6 1)))]
   refine st 1 a24 (gp true y20 (.ptr 6 2) (fun hc => vl) (gp true y20 (.d (.sl 10 (y17.on_.map cGExpr))) (fun hc => vg hc) (gp true y20 (vI (ln y17.on_)) (fun hc => vop_len (sz := 10) (l := y17.on_) (f := cGExpr) (Eq.trans (b := ([(true && (y20 == false))] : List Bool).all id) (by kernel_rfl) (all_c hc rfl)) (by kernel_rfl)) (gp true y20 (vB (decide (1 < (ln y17.on_)))) (fun hc => vg hc) ?_))))
   refine vs (fun (y : Bool) => (vB y)) h (fun y hy => vop_pickV hy (p := true) (q := (true && (y20 == false))) (by kernel_rfl) (by kernel_rfl) (by kernel_rfl) (by kernel_rfl) (fun _ => rfl) (fun hb => gc_f rfl hb)) fun y21 h => ?_
   let a25 : St := a24.p [(113, (vB y21)), (112, (vB y21)), (111, (.ite (gF y20) (vB (decide (1 < (ln y17.on_)))))), (110, (.ite (gF y20) (vI (ln y17.on_)))), (109, (.ite (gF y20) (.d (.sl 10 (y17.on_.map cGExpr))))), (108, (.ite (gF y20) (.ptr 6 2)))]
   refine st 1 a25 (gp true y21 (vI x92) (fun hc => vl) (gp true y21 (vB (decide (x92 = 0))) (fun hc => vg hc) (gp true y21 (vB (decide (x92 = 0))) (fun hc => vg hc) (gp (true && (y21 == false)) (decide (x92 = 0)) (.ptr 6 2) (fun hc => vl) (gp (true && (y21 == false)) (decide (x92 = 0)) (.d (.sl 10 (y17.on_.map cGExpr))) (fun hc => vg hc) ?_)))))
   refine gp (true && (y21 == false)) (decide (x92 = 0)) (vI (ln y17.on_)) (fun hc => vop_len (sz := 10) (l := y17.on_) (f := cGExpr) (Eq.trans (b := ([((true && (y21 == false)) && ((decide (x92 = 0)) == true))] : List Bool).all id) (by kernel_rfl) (all_c hc rfl)) (by kernel_rfl)) (gp (true && (y21 == false)) (decide (x92 = 0)) (vB (decide (0 < (ln y17.on_)))) (fun hc => vg hc) ?_)
   refine gv true y21 (fun (y : Bool) => (vB y)) h (fun y hy hc => vop_pickV hy (p := ((true && (y21 == false)) && ((decide (x92 = 0)) == true))) (q := true) (Eq.trans (b := ([(true && (y21 == false))] : List Bool).all id) (by kernel_rfl) (all_c hc rfl)) (by kernel_rfl) (by kernel_rfl) (by kernel_rfl) (fun hb => gc_t hc hb) (fun _ => rfl)) fun y22 h => ?_
   refine vs (fun (y : Bool) => (vB y)) h (fun y hy => vop_pickV hy (p := true) (q := (true && (y21 == false))) (by kernel_rfl) (by kernel_rfl) (by kernel_rfl) (by kernel_rfl) (fun _ => rfl) (fun hb => gc_f rfl hb)) fun y23 h => (nx ?_)
   refine cd h (fun h => ?_) fun h => ?_
   refine so ?_
   let a26 : St := a25.p [(2, (vB false)), (122, (vB y23)), (121, (.ite (gF y21) (vB y22))), (120, (.ite ((gF y21) && ((decide (x92 = 0)) == true)) (vB (decide (0 < (ln y17.on_)))))), (119, (.ite ((gF y21) && ((decide (x92 = 0)) == true)) (vI (ln y17.on_)))), (118, (.ite ((gF y21) && ((decide (x92 = 0)) == true)) (.d (.sl 10 (y17.on_.map cGExpr))))), (117, (.ite ((gF y21) && ((decide (x92 = 0)) == true)) (.ptr 6 2))), (116, (.ite (gF y21) (vB (decide (x92 = 0))))), (115, (.ite (gF y21) (vB (decide (x92 = 0))))), (114, (.ite (gF y21) (vI x92)))]
   refine st 1 a26 (nx (ri (br (tr (tr (br (tr ?_)))))))
   injection h with h; subst h
   exact r1 (v := (vB false))
   refine ki (bn (xi (oi ?_)))
   let a27 : St := a25.p [(92, (vI (IntKind.wrap .i64 (x92 + 1)))), (123, (vI (IntKind.wrap .i64 (x92 + 1)))), (122, (vB y23)), (121, (.ite (gF y21) (vB y22))), (120, (.ite ((gF y21) && ((decide (x92 = 0)) == true)) (vB (decide (0 < (ln y17.on_)))))), (119, (.ite ((gF y21) && ((decide (x92 = 0)) == true)) (vI (ln y17.on_)))), (118, (.ite ((gF y21) && ((decide (x92 = 0)) == true)) (.d (.sl 10 (y17.on_.map cGExpr))))), (117, (.ite ((gF y21) && ((decide (x92 = 0)) == true)) (.ptr 6 2))), (116, (.ite (gF y21) (vB (decide (x92 = 0))))), (115, (.ite (gF y21) (vB (decide (x92 = 0))))), (114, (.ite (gF y21) (vI x92)))]
   exact st 2 a27 (ni (loop_back (s' := stiIsFormedQuery_L1 p0 (IntKind.wrap .i64 (x92 + 1))) (wr [] (es (es (es (es er_nil)))) (bs_ br_nil)) (OK_iIsFormedQuery_L1 p0 (IntKind.wrap .i64 (x92 + 1)) _ h)))
   refine ei (te (te (bh (xi (so ?_)))))
   let a28 : St := a19.p [(124, (vGQuery p0))]
   refine st 1 a28 (callg_step ⟨[], [], [], [], [], [(2000000, 125)], [], [125]⟩ (m := iQuery_exprs p0) (S' := fun (y : (List GExpr)) => ⟨(125, (.osl 125 82 10 (y.map cGExpr))) :: a28.env, a28.bx⟩) h (OK_iQuery_exprs p0) (by kernel_rfl) (by kernel_rfl) (by kernel_rfl) (by kernel_rfl) (fun y => by kernel_rfl) (fun y => by kernel_rfl) ?_)
   clear h; intro y24 h
   refine cs h (OK_iAreFormed y24) fun y25 h => ?_
   let a29 : St := a28.p [(2, (vB y25)), (126, (vB y25)), (125, (.osl 125 82 10 (y24.map cGExpr)))]
   refine st 1 a29 (nx (ri ?_))
   injection h with h; subst h
   exact r1 (v := (vB y25))
 · intro F_gZ6 OK_gZ6 p0 r h
   refine aof triAreFormed ?_
   show avc Tryz.prog aciAreFormed (qiAreFormed _) ⟨[(0, (.d (.sl 10 (p0.map cGExpr))))], []⟩
   delta aciAreFormed
   refine so ?_
   let a0 : St := ⟨[(2, (vB false)), (0, (.d (.sl 10 (p0.map cGExpr))))], []⟩
   refine st 1 a0 (nx (so ?_))
   let a1 : St := a0.p [(3, (.d (.sl 10 (p0.map cGExpr))))]
   refine st 1 a1 (cs h (OK_gZ6 p0) fun y1 h => ?_)
   let a2 : St := a1.p [(2, (vB (!y1))), (5, (vB (!y1))), (4, (vB y1))]
   refine st 2 a2 (nx (ri ?_))
   injection h with h; subst h
   exact r1 (v := (vB (!y1)))
 · intro F_gZ9 OK_gZ9 p0 r h
   refine aof trgZ6 ?_
   show avc Tryz.prog acgZ6 (qgZ6 _) ⟨[(0, (.d (.sl 10 (p0.map cGExpr)))), (1, (.fn 67 []))], []⟩
   delta acgZ6
   refine so ?_
   let a0 : St := ⟨[(4, (vB false)), (0, (.d (.sl 10 (p0.map cGExpr)))), (1, (.fn 67 []))], []⟩
   refine st 1 a0 (nx (so ?_))
   let a1 : St := a0.p [(6, (.fn 67 [])), (5, (.d (.sl 10 (p0.map cGExpr))))]
   refine st 2 a1 (cs h (OK_gZ9 p0) fun y1 h => ?_)
   let a2 : St := a1.p [(4, (vB (decide (0 ≤ y1)))), (8, (vB (decide (0 ≤ y1)))), (7, (vI y1))]
   refine st 2 a2 (nx (ri ?_))
   injection h with h; subst h
   exact r1 (v := (vB (decide (0 ≤ y1))))
 · intro F_gZ9_L0 OK_gZ9_L0 p0 r h
   refine aof trgZ9 ?_
   show avc Tryz.prog acgZ9 (qgZ9 _) ⟨[(0, (.d (.sl 10 (p0.map cGExpr)))), (1, (.fn 67 []))], []⟩
   delta acgZ9
   refine so ?_
   let a0 : St := ⟨[(4, (vI 0)), (0, (.d (.sl 10 (p0.map cGExpr)))), (1, (.fn 67 []))], []⟩
   refine st 1 a0 (nx (si (so ?_)))
   let a1 : St := a0.p [(6, (.d (.sl 10 (p0.map cGExpr))))]
   refine st 1 a1 (ps (vI (ln p0)) (vln (sz := 10) (l := p0) (f := cGExpr)) ?_)
   let a2 : St := a1.p [(8, (vI 0)), (7, (vI (ln p0)))]
   exact st 1 a2 (nx (bi (loop_go (s' := stgZ9_L0 p0 0) (wr [] (es (es (es (es er_nil)))) br_nil) (OK_gZ9_L0 p0 0 _ h))))
 · intro F_gZ9_L0 F_iAreFormed_1 OK_gZ9_L0 OK_iAreFormed_1 p0 x8 r h
   delta acgZ9_L0
   refine loop_unroll (so ?_)
   let a3 : St := (stgZ9_L0 p0 x8).p [(9, (vB (decide (x8 < (ln p0)))))]
   refine st 1 a3 (nx (si ?_))
   refine cd h (fun h => ?_) fun h => ?_
   refine ki (xi (si (bi (so ?_))))
   let a4 : St := a3.p [(5, (vI x8)), (10, (vI x8))]
   refine st 2 a4 (nx (so ?_))
   let a5 : St := a4.p [(13, (vI x8)), (12, (.d (.sl 10 (p0.map cGExpr)))), (11, (.fn 67 []))]
   refine st 3 a5 (vs (fun (y : GExpr) => (.rp (oGExpr y))) h (fun y hy => via (l := p0) (f := cGExpr) (g := oGExpr) (k := .i64) hy cGExpr_eq) fun y1 h => ?_)
   let a6 : St := a5.p [(15, (vGExpr y1)), (14, (.rp (oGExpr y1)))]
   refine st 1 a6 (callv_step (m := F_iAreFormed_1 y1) (caps := []) (args := [(vGExpr y1)]) (v' := (fun y => (vB y))) h (by kernel_rfl) (by kernel_rfl) (OK_iAreFormed_1 y1) (by kernel_rfl) (by kernel_rfl) (fun _ => rfl) ?_)
   clear h; intro y2 h
   refine nx ?_
   refine cd h (fun h => ?_) fun h => ?_
   refine so ?_
   let a7 : St := a6.p [(4, (vI x8)), (17, (vI x8)), (16, (vB y2))]
   refine st 2 a7 (nx (ri (br (tr (tr (br (tr ?_)))))))
   injection h with h; subst h
   exact r1 (v := (vI x8))
   refine ki (bn (xi (oi ?_)))
   let a8 : St := a6.p [(8, (vI (IntKind.wrap .i64 (x8 + 1)))), (18, (vI (IntKind.wrap .i64 (x8 + 1)))), (16, (vB y2))]
   exact st 2 a8 (ni (loop_back (s' := stgZ9_L0 p0 (IntKind.wrap .i64 (x8 + 1))) (wr [] (es (es (es (es er_nil)))) br_nil) (OK_gZ9_L0 p0 (IntKind.wrap .i64 (x8 + 1)) _ h)))
   refine ei (te (te (bh (xi (so ?_)))))
   let a9 : St := a3.p [(4, (vI (-1)))]
   refine st 1 a9 (nx (ri ?_))
   injection h with h; subst h
   exact r1 (v := (vI (-1)))
 · intro F_iIsFormed OK_iIsFormed p0 r h
   refine aof triAreFormed_1 ?_
   show avc Tryz.prog aciAreFormed_1 (qiAreFormed_1 _) ⟨[(0, (vGExpr p0))], []⟩
   delta aciAreFormed_1
   refine so ?_
   let a0 : St := ⟨[(2, (vB false)), (1, (.ptr 1 0)), (0, (vGExpr p0))], [(1, bGExpr p0)]⟩
   refine st 2 a0 (nx (so ?_))
   let a1 : St := a0.p [(3, (vGExpr p0))]
   refine st 1 a1 (cs h (OK_iIsFormed p0) fun y1 h => ?_)
   let a2 : St := a1.p [(2, (vB (!y1))), (5, (vB (!y1))), (4, (vB y1))]
   refine st 2 a2 (nx (ri ?_))
   injection h with h; subst h
   exact r1 (v := (vB (!y1)))
 · intro F_iAreFormed F_gZ5 OK_iAreFormed OK_gZ5 p0 r h
   refine aof triIsFormed ?_
   show avc Tryz.prog aciIsFormed (qiIsFormed _) ⟨[(0, (vGExpr p0))], []⟩
   delta aciIsFormed
   refine so ?_
   let a0 : St := ⟨[(2, (vB false)), (1, (.ptr 1 0)), (0, (vGExpr p0))], [(1, bGExpr p0)]⟩
   refine st 2 a0 (nx (so ?_))
   let a1 : St := a0.p [(6, (vGExpr p0))]
   refine st 1 a1 (cs h (OK_iFormOf p0) fun y1 h => ?_)
   let a2 : St := ⟨(4, (vB y1.2)) :: (3, (.ptr 3 0)) :: (9, (vB y1.2)) :: (8, (vGForm y1.1)) :: (5, (.tup [(vGForm y1.1), (vB y1.2)])) :: (7, (.tup [(vGForm y1.1), (vB y1.2)])) :: a1.env, [(3, bGForm y1.1), (1, bGExpr p0)]⟩
   refine st 6 a2 (nx (si (so ?_)))
   let a3 : St := a2.p [(12, (vB (!y1.2))), (11, (vB (!y1.2))), (10, (vB y1.2))]
   refine st 3 a3 (gp true (!y1.2) (.ptr 3 0) (fun hc => vl) (gp true (!y1.2) (vB y1.1.op) (fun hc => vg hc) (gp true (!y1.2) (vB (!y1.1.op)) (fun hc => vg hc) (gp true (!y1.2) (vB (!y1.1.op)) (fun hc => vg hc) (gp (true && ((!y1.2) == false)) (!y1.1.op) (.ptr 1 1) (fun hc => vl) (gp (true && ((!y1.2) == false)) (!y1.1.op) (vI p0.op) (fun hc => vg hc) ?_))))))
   refine gp (true && ((!y1.2) == false)) (!y1.1.op) (vB (!decide (p0.op = 0))) (fun hc => vg hc) ?_
   refine gv true (!y1.2) (fun (y : Bool) => (vB y)) h (fun y hy hc => vop_pickV hy (p := ((true && ((!y1.2) == false)) && ((!y1.1.op) == true))) (q := true) (Eq.trans (b := ([(true && ((!y1.2) == false))] : List Bool).all id) (by kernel_rfl) (all_c hc rfl)) (by kernel_rfl) (by kernel_rfl) (by kernel_rfl) (fun hb => gc_t hc hb) (fun _ => rfl)) fun y2 h => ?_
   refine vs (fun (y : Bool) => (vB y)) h (fun y hy => vop_pickV hy (p := true) (q := (true && ((!y1.2) == false))) (by kernel_rfl) (by kernel_rfl) (by kernel_rfl) (by kernel_rfl) (fun _ => rfl) (fun hb => gc_f rfl hb)) fun y3 h => ?_
   let a4 : St := a3.p [(22, (vB y3)), (21, (vB y3)), (20, (.ite (true && ((!y1.2) == false)) (vB y2))), (19, (.ite ((true && ((!y1.2) == false)) && ((!y1.1.op) == true)) (vB (!decide (p0.op = 0))))), (18, (.ite ((true && ((!y1.2) == false)) && ((!y1.1.op) == true)) (vI p0.op))), (17, (.ite ((true && ((!y1.2) == false)) && ((!y1.1.op) == true)) (.ptr 1 1))), (16, (.ite (true && ((!y1.2) == false)) (vB (!y1.1.op)))), (15, (.ite (true && ((!y1.2) == false)) (vB (!y1.1.op)))), (14, (.ite (true && ((!y1.2) == false)) (vB y1.1.op))), (13, (.ite (true && ((!y1.2) == false)) (.ptr 3 0)))]
   refine st 1 a4 (gp true y3 (.ptr 3 1) (fun hc => vl) (gp true y3 (vB y1.1.not_) (fun hc => vg hc) (gp true y3 (vB (!y1.1.not_)) (fun hc => vg hc) (gp true y3 (vB (!y1.1.not_)) (fun hc => vg hc) (gp (true && (y3 == false)) (!y1.1.not_) (.ptr 1 2) (fun hc => vl) (gp (true && (y3 == false)) (!y1.1.not_) (vB p0.not_) (fun hc => vg hc) ?_))))))
   refine gv true y3 (fun (y : Bool) => (vB y)) h (fun y hy hc => vop_pickV hy (p := ((true && (y3 == false)) && ((!y1.1.not_) == true))) (q := true) (Eq.trans (b := ([(true && (y3 == false))] : List Bool).all id) (by kernel_rfl) (all_c hc rfl)) (by kernel_rfl) (by kernel_rfl) (by kernel_rfl) (fun hb => gc_t hc hb) (fun _ => rfl)) fun y4 h => ?_
   refine vs (fun (y : Bool) => (vB y)) h (fun y hy => vop_pickV hy (p := true) (q := (true && (y3 == false))) (by kernel_rfl) (by kernel_rfl) (by kernel_rfl) (by kernel_rfl) (fun _ => rfl) (fun hb => gc_f rfl hb)) fun y5 h => ?_
   let a5 : St := a4.p [(31, (vB y5)), (30, (vB y5)), (29, (.ite (gF y3) (vB y4))), (28, (.ite ((gF y3) && ((!y1.1.not_) == true)) (vB p0.not_))), (27, (.ite ((gF y3) && ((!y1.1.not_) == true)) (.ptr 1 2))), (26, (.ite (gF y3) (vB (!y1.1.not_)))), (25, (.ite (gF y3) (vB (!y1.1.not_)))), (24, (.ite (gF y3) (vB y1.1.not_))), (23, (.ite (gF y3) (.ptr 3 1)))]
   refine st 1 a5 (gp true y5 (.ptr 3 2) (fun hc => vl) (gp true y5 (vB y1.1.value) (fun hc => vg hc) (gp true y5 (vB (!y1.1.value)) (fun hc => vg hc) (gp true y5 (vB (!y1.1.value)) (fun hc => vg hc) (gp (true && (y5 == false)) (!y1.1.value) (.ptr 1 3) (fun hc => vl) (gp (true && (y5 == false)) (!y1.1.value) (vGValue p0.value) (fun hc => vg hc) ?_))))))
   refine gp (true && (y5 == false)) (!y1.1.value) (vGValue (GValue.mk 0 0 [])) (fun hc => vl) ?_
   refine gp (true && (y5 == false)) (!y1.1.value) (vB (!((decide (p0.value.kind = 0)) && ((decide (p0.value.num = 0)) && ((decide (p0.value.text = [])) && true))))) (fun hc => vop_val1 (Eq.trans (b := ([((true && (y5 == false)) && ((!y1.1.value) == true)), ((true && (y5 == false)) && ((!y1.1.value) == true))] : List Bool).all id) (by kernel_rfl) (all_c hc (all_c hc rfl))) (by kernel_rfl)) ?_
   refine gv true y5 (fun (y : Bool) => (vB y)) h (fun y hy hc => vop_pickV hy (p := ((true && (y5 == false)) && ((!y1.1.value) == true))) (q := true) (Eq.trans (b := ([(true && (y5 == false))] : List Bool).all id) (by kernel_rfl) (all_c hc rfl)) (by kernel_rfl) (by kernel_rfl) (by kernel_rfl) (fun hb => gc_t hc hb) (fun _ => rfl)) fun y6 h => ?_
   refine vs (fun (y : Bool) => (vB y)) h (fun y hy => vop_pickV hy (p := true) (q := (true && (y5 == false))) (by kernel_rfl) (by kernel_rfl) (by kernel_rfl) (by kernel_rfl) (fun _ => rfl) (fun hb => gc_f rfl hb)) fun y7 h => ?_
   let a6 : St := a5.p [(42, (vB y7)), (41, (vB y7)), (40, (.ite (gF y5) (vB y6))), (39, (.ite ((gF y5) && ((!y1.1.value) == true)) (vB (!((decide (p0.value.kind = 0)) && ((decide (p0.value.num = 0)) && ((decide (p0.value.text = [])) && true))))))), (38, (.ite ((gF y5) && ((!y1.1.value) == true)) (vGValue (GValue.mk 0 0 [])))), (37, (.ite ((gF y5) && ((!y1.1.value) == true)) (vGValue p0.value))), (36, (.ite ((gF y5) && ((!y1.1.value) == true)) (.ptr 1 3))), (35, (.ite (gF y5) (vB (!y1.1.value)))), (34, (.ite (gF y5) (vB (!y1.1.value)))), (33, (.ite (gF y5) (vB y1.1.value))), (32, (.ite (gF y5) (.ptr 3 2)))]
   refine st 1 a6 (gp true y7 (.ptr 3 3) (fun hc => vl) (gp true y7 (vB y1.1.name) (fun hc => vg hc) (gp true y7 (vB (!y1.1.name)) (fun hc => vg hc) (gp true y7 (vB (!y1.1.name)) (fun hc => vg hc) (gp (true && (y7 == false)) (!y1.1.name) (.ptr 1 6) (fun hc => vl) (gp (true && (y7 == false)) (!y1.1.name) (vS p0.qual) (fun hc => vg hc) ?_))))))
   refine gp (true && (y7 == false)) (!y1.1.name) (vB (!decide (p0.qual = []))) (fun hc => vg hc) (gp (true && (y7 == false)) (!y1.1.name) (vB (!decide (p0.qual = []))) (fun hc => vg hc) (gp ((true && (y7 == false)) && ((!y1.1.name) == true)) (!decide (p0.qual = [])) (.ptr 1 7) (fun hc => vl) ?_))
   refine gp ((true && (y7 == false)) && ((!y1.1.name) == true)) (!decide (p0.qual = [])) (vS p0.name) (fun hc => vop_val1 (Eq.trans (b := ([(((true && (y7 == false)) && ((!y1.1.name) == true)) && ((!decide (p0.qual = [])) == false))] : List Bool).all id) (by kernel_rfl) (all_c hc rfl)) (by kernel_rfl)) ?_
   refine gp ((true && (y7 == false)) && ((!y1.1.name) == true)) (!decide (p0.qual = [])) (vB (!decide (p0.name = []))) (fun hc => vop_val1 (Eq.trans (b := ([(((true && (y7 == false)) && ((!y1.1.name) == true)) && ((!decide (p0.qual = [])) == false))] : List Bool).all id) (by kernel_rfl) (all_c hc rfl)) (by kernel_rfl)) ?_
   refine gv (true && (y7 == false)) (!y1.1.name) (fun (y : Bool) => (vB y)) h (fun y hy hc => vop_pickV hy (p := true) (q := (((true && (y7 == false)) && ((!y1.1.name) == true)) && ((!decide (p0.qual = [])) == false))) (Eq.trans (b := ([((true && (y7 == false)) && ((!y1.1.name) == true))] : List Bool).all id) (by kernel_rfl) (all_c hc rfl)) (by kernel_rfl) (by kernel_rfl) (by kernel_rfl) (fun _ => rfl) (fun hb => gc_f hc hb)) fun y8 h => ?_
   refine gv true y7 (fun (y : Bool) => (vB y)) h (fun y hy hc => vop_pickV hy (p := ((true && (y7 == false)) && ((!y1.1.name) == true))) (q := true) (Eq.trans (b := ([(true && (y7 == false))] : List Bool).all id) (by kernel_rfl) (all_c hc rfl)) (by kernel_rfl) (by kernel_rfl) (by kernel_rfl) (fun hb => gc_t hc hb) (fun _ => rfl)) fun y9 h => ?_
   refine vs (fun (y : Bool) => (vB y)) h (fun y hy => vop_pickV hy (p := true) (q := (true && (y7 == false))) (by kernel_rfl) (by kernel_rfl) (by kernel_rfl) (by kernel_rfl) (fun _ => rfl) (fun hb => gc_f rfl hb)) fun y10 h => (nx ?_)
   refine cd h (fun h => ?_) fun h => ?_
   refine so ?_
   let a7 : St := a6.p [(2, (vB false)), (56, (vB y10)), (55, (.ite (gF y7) (vB y9))), (54, (.ite ((gF y7) && ((!y1.1.name) == true)) (vB y8))), (53, (.ite (((gF y7) && ((!y1.1.name) == true)) && ((!decide (p0.qual = [])) == false)) (vB (!decide (p0.name = []))))), (52, (.ite (((gF y7) && ((!y1.1.name) == true)) && ((!decide (p0.qual = [])) == false)) (vS p0.name))), (51, (.ite (((gF y7) && ((!y1.1.name) == true)) && ((!decide (p0.qual = [])) == false)) (.ptr 1 7))), (50, (.ite ((gF y7) && ((!y1.1.name) == true)) (vB (!decide (p0.qual = []))))), (49, (.ite ((gF y7) && ((!y1.1.name) == true)) (vB (!decide (p0.qual = []))))), (48, (.ite ((gF y7) && ((!y1.1.name) == true)) (vS p0.qual))), (47, (.ite ((gF y7) && ((!y1.1.name) == true)) (.ptr 1 6))), (46, (.ite (gF y7) (vB (!y1.1.name)))), (45, (.ite (gF y7) (vB (!y1.1.name)))), (44, (.ite (gF y7) (vB y1.1.name))), (43, (.ite (gF y7) (.ptr 3 3)))]
   refine st 1 a7 (nx (ri (tr ?_)))
   injection h with h; subst h
   exact r1 (v := (vB false))
   refine ki (xi (si (so ?_)))
   let a8 : St := a6.p [(58, (.d (.sl 10 (p0.kids.map cGExpr)))), (57, (.ptr 1 8)), (56, (vB y10)), (55, (.ite (gF y7) (vB y9))), (54, (.ite ((gF y7) && ((!y1.1.name) == true)) (vB y8))), (53, (.ite (((gF y7) && ((!y1.1.name) == true)) && ((!decide (p0.qual = [])) == false)) (vB (!decide (p0.name = []))))), (52, (.ite (((gF y7) && ((!y1.1.name) == true)) && ((!decide (p0.qual = [])) == false)) (vS p0.name))), (51, (.ite (((gF y7) && ((!y1.1.name) == true)) && ((!decide (p0.qual = [])) == false)) (.ptr 1 7))), (50, (.ite ((gF y7) && ((!y1.1.name) == true)) (vB (!decide (p0.qual = []))))), (49, (.ite ((gF y7) && ((!y1.1.name) == true)) (vB (!decide (p0.qual = []))))), (48, (.ite ((gF y7) && ((!y1.1.name) == true)) (vS p0.qual))), (47, (.ite ((gF y7) && ((!y1.1.name) == true)) (.ptr 1 6))), (46, (.ite (gF y7) (vB (!y1.1.name)))), (45, (.ite (gF y7) (vB (!y1.1.name)))), (44, (.ite (gF y7) (vB y1.1.name))), (43, (.ite (gF y7) (.ptr 3 3)))]
   refine st 2 a8 (ps (vI (ln p0.kids)) (vln (sz := 10) (l := p0.kids) (f := cGExpr)) ?_)
   let a9 : St := a8.p [(63, (vB (decide ((ln p0.kids) < y1.1.least)))), (62, (vB (decide ((ln p0.kids) < y1.1.least)))), (61, (vI y1.1.least)), (60, (.ptr 3 4)), (59, (vI (ln p0.kids)))]
   refine st 4 a9 (gp true (decide ((ln p0.kids) < y1.1.least)) (.ptr 1 8) (fun hc => vl) (gp true (decide ((ln p0.kids) < y1.1.least)) (.d (.sl 10 (p0.kids.map cGExpr))) (fun hc => vg hc) ?_))
   refine gp true (decide ((ln p0.kids) < y1.1.least)) (vI (ln p0.kids)) (fun hc => vop_len (sz := 10) (l := p0.kids) (f := cGExpr) (Eq.trans (b := ([(true && ((decide ((ln p0.kids) < y1.1.least)) == false))] : List Bool).all id) (by kernel_rfl) (all_c hc rfl)) (by kernel_rfl)) (gp true (decide ((ln p0.kids) < y1.1.least)) (.ptr 3 5) (fun hc => vl) ?_)
   refine gp true (decide ((ln p0.kids) < y1.1.least)) (vI y1.1.most) (fun hc => vg hc) ?_
   refine gp true (decide ((ln p0.kids) < y1.1.least)) (vB (decide (y1.1.most < (ln p0.kids)))) (fun hc => vop_val1 (Eq.trans (b := ([(true && ((decide ((ln p0.kids) < y1.1.least)) == false)), (true && ((decide ((ln p0.kids) < y1.1.least)) == false))] : List Bool).all id) (by kernel_rfl) (all_c hc (all_c hc rfl))) (by kernel_rfl)) ?_
   refine vs (fun (y : Bool) => (vB y)) h (fun y hy => vop_pickV hy (p := true) (q := (true && ((decide ((ln p0.kids) < y1.1.least)) == false))) (by kernel_rfl) (by kernel_rfl) (by kernel_rfl) (by kernel_rfl) (fun _ => rfl) (fun hb => gc_f rfl hb)) fun y11 h => ?_
   let a10 : St := a9.p [(71, (vB y11)), (70, (vB y11)), (69, (.ite (true && ((decide ((ln p0.kids) < y1.1.least)) == false)) (vB (decide (y1.1.most < (ln p0.kids)))))), (68, (.ite (true && ((decide ((ln p0.kids) < y1.1.least)) == false)) (vI y1.1.most))), (67, (.ite (true && ((decide ((ln p0.kids) < y1.1.least)) == false)) (.ptr 3 5))), (66, (.ite (true && ((decide ((ln p0.kids) < y1.1.least)) == false)) (vI (ln p0.kids)))), (65, (.ite (true && ((decide ((ln p0.kids) < y1.1.least)) == false)) (.d (.sl 10 (p0.kids.map cGExpr))))), (64, (.ite (true && ((decide ((ln p0.kids) < y1.1.least)) == false)) (.ptr 1 8)))]
   refine st 1 a10 (gp true y11 (.ptr 1 9) (fun hc => vl) (gp true y11 (.d (.sl 6 (p0.sub.map cGQuery))) (fun hc => vg hc) (gp true y11 (vI (ln p0.sub)) (fun hc => vop_len (sz := 6) (l := p0.sub) (f := cGQuery) (Eq.trans (b := ([(true && (y11 == false))] : List Bool).all id) (by kernel_rfl) (all_c hc rfl)) (by kernel_rfl)) (gp true y11 (.ptr 3 6) (fun hc => vl) (gp true y11 (vI y1.1.subs) (fun hc => vg hc) ?_)))))
   refine gp true y11 (vB (!decide ((ln p0.sub) = y1.1.subs))) (fun hc => vop_val1 (Eq.trans (b := ([(true && (y11 == false)), (true && (y11 == false))] : List Bool).all id) (by kernel_rfl) (all_c hc (all_c hc rfl))) (by kernel_rfl)) ?_
   refine vs (fun (y : Bool) => (vB y)) h (fun y hy => vop_pickV hy (p := true) (q := (true && (y11 == false))) (by kernel_rfl) (by kernel_rfl) (by kernel_rfl) (by kernel_rfl) (fun _ => rfl) (fun hb => gc_f rfl hb)) fun y12 h => (nx ?_)
   refine cd h (fun h => ?_) fun h => ?_
   refine so ?_
   let a11 : St := a10.p [(2, (vB false)), (78, (vB y12)), (77, (.ite (gF y11) (vB (!decide ((ln p0.sub) = y1.1.subs))))), (76, (.ite (gF y11) (vI y1.1.subs))), (75, (.ite (gF y11) (.ptr 3 6))), (74, (.ite (gF y11) (vI (ln p0.sub)))), (73, (.ite (gF y11) (.d (.sl 6 (p0.sub.map cGQuery))))), (72, (.ite (gF y11) (.ptr 1 9)))]
   refine st 1 a11 (nx (ri (tr ?_)))
   injection h with h; subst h
   exact r1 (v := (vB false))
   refine ki (xi (so ?_))
   let a12 : St := a10.p [(80, (.d (.sl 10 (p0.kids.map cGExpr)))), (79, (.ptr 1 8)), (78, (vB y12)), (77, (.ite (gF y11) (vB (!decide ((ln p0.sub) = y1.1.subs))))), (76, (.ite (gF y11) (vI y1.1.subs))), (75, (.ite (gF y11) (.ptr 3 6))), (74, (.ite (gF y11) (vI (ln p0.sub)))), (73, (.ite (gF y11) (.d (.sl 6 (p0.sub.map cGQuery))))), (72, (.ite (gF y11) (.ptr 1 9)))]
   refine st 2 a12 (cs h (OK_iAreFormed p0.kids) fun y13 h => ?_)
   let a13 : St := a12.p [(82, (vB y13)), (81, (vB y13))]
   refine st 1 a13 (gp true y13 (.ptr 1 9) (fun hc => vl) (gp true y13 (.d (.sl 6 (p0.sub.map cGQuery))) (fun hc => vg hc) ?_))
   refine gcall_step (p := true) (b := y13) (m := F_gZ5 p0.sub) (dflt := default) (args := [(.d (.sl 6 (p0.sub.map cGQuery))), (.fn 99 [])]) (v' := (fun y => (vB y))) h (by kernel_rfl) (OK_gZ5 p0.sub) (fun hc => by kernel_rfl) (by kernel_rfl) (fun _ => rfl) (fun hc => (Eq.trans (b := ([(true && (y13 == true))] : List Bool).all id) (by kernel_rfl) (all_c hc rfl))) ?_
   clear h; intro y14 h
   refine gp true y13 (vB (!y14)) (fun hc => vg hc) (vs (fun (y : Bool) => (vB y)) h (fun y hy => vop_pickV hy (p := (true && (y13 == true))) (q := true) (by kernel_rfl) (by kernel_rfl) (by kernel_rfl) (by kernel_rfl) (fun hb => gc_t rfl hb) (fun _ => rfl)) fun y15 h => ?_)
   let a14 : St := a13.p [(2, (vB y15)), (87, (vB y15)), (86, (.ite (gT y13) (vB (!y14)))), (85, (.ite (gT y13) (vB y14))), (84, (.ite (gT y13) (.d (.sl 6 (p0.sub.map cGQuery))))), (83, (.ite (gT y13) (.ptr 1 9)))]
   refine st 1 a14 (nx (ri ?_))
   injection h with h; subst h
   exact r1 (v := (vB y15))
 · intro F_gZ8 OK_gZ8 p0 r h
   refine aof trgZ5 ?_
   show avc Tryz.prog acgZ5 (qgZ5 _) ⟨[(0, (.d (.sl 6 (p0.map cGQuery)))), (1, (.fn 99 []))], []⟩
   delta acgZ5
   refine so ?_
   let a0 : St := ⟨[(4, (vB false)), (0, (.d (.sl 6 (p0.map cGQuery)))), (1, (.fn 99 []))], []⟩
   refine st 1 a0 (nx (so ?_))
   let a1 : St := a0.p [(6, (.fn 99 [])), (5, (.d (.sl 6 (p0.map cGQuery))))]
   refine st 2 a1 (cs h (OK_gZ8 p0) fun y1 h => ?_)
   let a2 : St := a1.p [(4, (vB (decide (0 ≤ y1)))), (8, (vB (decide (0 ≤ y1)))), (7, (vI y1))]
   refine st 2 a2 (nx (ri ?_))
   injection h with h; subst h
   exact r1 (v := (vB (decide (0 ≤ y1))))
 · intro F_gZ8_L0 OK_gZ8_L0 p0 r h
   refine aof trgZ8 ?_
   show avc Tryz.prog acgZ8 (qgZ8 _) ⟨[(0, (.d (.sl 6 (p0.map cGQuery)))), (1, (.fn 99 []))], []⟩
   delta acgZ8
   refine so ?_
   let a0 : St := ⟨[(4, (vI 0)), (0, (.d (.sl 6 (p0.map cGQuery)))), (1, (.fn 99 []))], []⟩
   refine st 1 a0 (nx (si (so ?_)))
   let a1 : St := a0.p [(6, (.d (.sl 6 (p0.map cGQuery))))]
   refine st 1 a1 (ps (vI (ln p0)) (vln (sz := 6) (l := p0) (f := cGQuery)) ?_)
   let a2 : St := a1.p [(8, (vI 0)), (7, (vI (ln p0)))]
   exact st 1 a2 (nx (bi (loop_go (s' := stgZ8_L0 p0 0) (wr [] (es (es (es (es er_nil)))) br_nil) (OK_gZ8_L0 p0 0 _ h))))
 · intro F_gZ8_L0 F_iIsFormed_1 OK_gZ8_L0 OK_iIsFormed_1 p0 x8 r h
   delta acgZ8_L0
   refine loop_unroll (so ?_)
   let a3 : St := (stgZ8_L0 p0 x8).p [(9, (vB (decide (x8 < (ln p0)))))]
   refine st 1 a3 (nx (si ?_))
   refine cd h (fun h => ?_) fun h => ?_
   refine ki (xi (si (bi (so ?_))))
   let a4 : St := a3.p [(5, (vI x8)), (10, (vI x8))]
   refine st 2 a4 (nx (so ?_))
   let a5 : St := a4.p [(13, (vI x8)), (12, (.d (.sl 6 (p0.map cGQuery)))), (11, (.fn 99 []))]
   refine st 3 a5 (vs (fun (y : GQuery) => (.rp (oGQuery y))) h (fun y hy => via (l := p0) (f := cGQuery) (g := oGQuery) (k := .i64) hy cGQuery_eq) fun y1 h => ?_)
   let a6 : St := a5.p [(15, (vGQuery y1)), (14, (.rp (oGQuery y1)))]
   refine st 1 a6 (callv_step (m := F_iIsFormed_1 y1) (caps := []) (args := [(vGQuery y1)]) (v' := (fun y => (vB y))) h (by kernel_rfl) (by kernel_rfl) (OK_iIsFormed_1 y1) (by kernel_rfl) (by kernel_rfl) (fun _ => rfl) ?_)
   clear h; intro y2 h
   refine nx ?_
   refine cd h (fun h => ?_) fun h => ?_
   refine so ?_
   let a7 : St := a6.p [(4, (vI x8)), (17, (vI x8)), (16, (vB y2))]
   refine st 2 a7 (nx (ri (br (tr (tr (br (tr ?_)))))))
   injection h with h; subst h
   exact r1 (v := (vI x8))
   refine ki (bn (xi (oi ?_)))
   let a8 : St := a6.p [(8, (vI (IntKind.wrap .i64 (x8 + 1)))), (18, (vI (IntKind.wrap .i64 (x8 + 1)))), (16, (vB y2))]
   exact st 2 a8 (ni (loop_back (s' := stgZ8_L0 p0 (IntKind.wrap .i64 (x8 + 1))) (wr [] (es (es (es (es er_nil)))) br_nil) (OK_gZ8_L0 p0 (IntKind.wrap .i64 (x8 + 1)) _ h)))
   refine ei (te (te (bh (xi (so ?_)))))
   let a9 : St := a3.p [(4, (vI (-1)))]
   refine st 1 a9 (nx (ri ?_))
   injection h with h; subst h
   exact r1 (v := (vI (-1)))
 · intro F_iIsFormedQuery OK_iIsFormedQuery p0 r h
   refine aof triIsFormed_1 ?_
   show avc Tryz.prog aciIsFormed_1 (qiIsFormed_1 _) ⟨[(0, (vGQuery p0))], []⟩
   delta aciIsFormed_1
   refine so ?_
   let a0 : St := ⟨[(2, (vB false)), (1, (.ptr 1 0)), (0, (vGQuery p0))], [(1, bGQuery p0)]⟩
   refine st 2 a0 (nx (so ?_))
   let a1 : St := a0.p [(3, (vGQuery p0))]
   refine st 1 a1 (cs h (OK_iIsFormedQuery p0) fun y1 h => ?_)
   let a2 : St := a1.p [(2, (vB (!y1))), (5, (vB (!y1))), (4, (vB y1))]
   refine st 2 a2 (nx (ri ?_))
   injection h with h; subst h
   exact r1 (v := (vB (!y1)))
 · intro F_iIsFormedQuery_L0 OK_iIsFormedQuery_L0 p0 r h
   refine aof triIsFormedQuery ?_
   show avc Tryz.prog aciIsFormedQuery (qiIsFormedQuery _) ⟨[(0, (vGQuery p0))], []⟩
   delta aciIsFormedQuery
   refine so ?_
   let a0 : St := ⟨[(2, (vB false)), (1, (.ptr 1 0)), (0, (vGQuery p0))], [(1, bGQuery p0)]⟩
   refine st 2 a0 (nx (si (so ?_)))
   let a1 : St := a0.p [(8, (.d (.sl 13 (p0.items.map cGItem)))), (7, (.ptr 1 1))]
   refine st 2 a1 (ps (vI (ln p0.items)) (vln (sz := 13) (l := p0.items) (f := cGItem)) ?_)
   let a2 : St := a1.p [(11, (vB (decide ((ln p0.items) < 1)))), (10, (vB (decide ((ln p0.items) < 1)))), (9, (vI (ln p0.items)))]
   refine st 2 a2 (gp true (decide ((ln p0.items) < 1)) (.ptr 1 1) (fun hc => vl) (gp true (decide ((ln p0.items) < 1)) (.d (.sl 13 (p0.items.map cGItem))) (fun hc => vg hc) ?_))
   refine gp true (decide ((ln p0.items) < 1)) (vI (ln p0.items)) (fun hc => vop_len (sz := 13) (l := p0.items) (f := cGItem) (Eq.trans (b := ([(true && ((decide ((ln p0.items) < 1)) == false))] : List Bool).all id) (by kernel_rfl) (all_c hc rfl)) (by kernel_rfl)) (gp true (decide ((ln p0.items) < 1)) (vB (decide (12 < (ln p0.items)))) (fun hc => vg hc) ?_)
   refine vs (fun (y : Bool) => (vB y)) h (fun y hy => vop_pickV hy (p := true) (q := (true && ((decide ((ln p0.items) < 1)) == false))) (by kernel_rfl) (by kernel_rfl) (by kernel_rfl) (by kernel_rfl) (fun _ => rfl) (fun hb => gc_f rfl hb)) fun y1 h => ?_
   let a3 : St := a2.p [(17, (vB y1)), (16, (vB y1)), (15, (.ite (true && ((decide ((ln p0.items) < 1)) == false)) (vB (decide (12 < (ln p0.items)))))), (14, (.ite (true && ((decide ((ln p0.items) < 1)) == false)) (vI (ln p0.items)))), (13, (.ite (true && ((decide ((ln p0.items) < 1)) == false)) (.d (.sl 13 (p0.items.map cGItem))))), (12, (.ite (true && ((decide ((ln p0.items) < 1)) == false)) (.ptr 1 1)))]
   refine st 1 a3 (gp true y1 (.ptr 1 2) (fun hc => vl) (gp true y1 (.d (.sl 3 (p0.from_.map cGSource))) (fun hc => vg hc) (gp true y1 (vI (ln p0.from_)) (fun hc => vop_len (sz := 3) (l := p0.from_) (f := cGSource) (Eq.trans (b := ([(true && (y1 == false))] : List Bool).all id) (by kernel_rfl) (all_c hc rfl)) (by kernel_rfl)) (gp true y1 (vB (decide ((ln p0.from_) < 1))) (fun hc => vg hc) ?_))))
   refine vs (fun (y : Bool) => (vB y)) h (fun y hy => vop_pickV hy (p := true) (q := (true && (y1 == false))) (by kernel_rfl) (by kernel_rfl) (by kernel_rfl) (by kernel_rfl) (fun _ => rfl) (fun hb => gc_f rfl hb)) fun y2 h => ?_
   let a4 : St := a3.p [(23, (vB y2)), (22, (vB y2)), (21, (.ite (gF y1) (vB (decide ((ln p0.from_) < 1))))), (20, (.ite (gF y1) (vI (ln p0.from_)))), (19, (.ite (gF y1) (.d (.sl 3 (p0.from_.map cGSource))))), (18, (.ite (gF y1) (.ptr 1 2)))]
   refine st 1 a4 (gp true y2 (.ptr 1 2) (fun hc => vl) (gp true y2 (.d (.sl 3 (p0.from_.map cGSource))) (fun hc => vg hc) (gp true y2 (vI (ln p0.from_)) (fun hc => vop_len (sz := 3) (l := p0.from_) (f := cGSource) (Eq.trans (b := ([(true && (y2 == false))] : List Bool).all id) (by kernel_rfl) (all_c hc rfl)) (by kernel_rfl)) (gp true y2 (vB (decide (3 < (ln p0.from_)))) (fun hc => vg hc) ?_))))
   refine vs (fun (y : Bool) => (vB y)) h (fun y hy => vop_pickV hy (p := true) (q := (true && (y2 == false))) (by kernel_rfl) (by kernel_rfl) (by kernel_rfl) (by kernel_rfl) (fun _ => rfl) (fun hb => gc_f rfl hb)) fun y3 h => ?_
   let a5 : St := a4.p [(29, (vB y3)), (28, (vB y3)), (27, (.ite (gF y2) (vB (decide (3 < (ln p0.from_)))))), (26, (.ite (gF y2) (vI (ln p0.from_)))), (25, (.ite (gF y2) (.d (.sl 3 (p0.from_.map cGSource))))), (24, (.ite (gF y2) (.ptr 1 2)))]
   refine st 1 a5 (gp true y3 (.ptr 1 3) (fun hc => vl) (gp true y3 (.d (.sl 10 (p0.where_.map cGExpr))) (fun hc => vg hc) (gp true y3 (vI (ln p0.where_)) (fun hc => vop_len (sz := 10) (l := p0.where_) (f := cGExpr) (Eq.trans (b := ([(true && (y3 == false))] : List Bool).all id) (by kernel_rfl) (all_c hc rfl)) (by kernel_rfl)) (gp true y3 (vB (decide (1 < (ln p0.where_)))) (fun hc => vg hc) ?_))))
   refine vs (fun (y : Bool) => (vB y)) h (fun y hy => vop_pickV hy (p := true) (q := (true && (y3 == false))) (by kernel_rfl) (by kernel_rfl) (by kernel_rfl) (by kernel_rfl) (fun _ => rfl) (fun hb => gc_f rfl hb)) fun y4 h => ?_
   let a6 : St := a5.p [(35, (vB y4)), (34, (vB y4)), (33, (.ite (gF y3) (vB (decide (1 < (ln p0.where_)))))), (32, (.ite (gF y3) (vI (ln p0.where_)))), (31, (.ite (gF y3) (.d (.sl 10 (p0.where_.map cGExpr))))), (30, (.ite (gF y3) (.ptr 1 3)))]
   refine st 1 a6 (gp true y4 (.ptr 1 4) (fun hc => vl) (gp true y4 (.d (.sl 11 (p0.order.map cGSortKey))) (fun hc => vg hc) (gp true y4 (vI (ln p0.order)) (fun hc => vop_len (sz := 11) (l := p0.order) (f := cGSortKey) (Eq.trans (b := ([(true && (y4 == false))] : List Bool).all id) (by kernel_rfl) (all_c hc rfl)) (by kernel_rfl)) (gp true y4 (vB (decide (12 < (ln p0.order)))) (fun hc => vg hc) ?_))))
   refine vs (fun (y : Bool) => (vB y)) h (fun y hy => vop_pickV hy (p := true) (q := (true && (y4 == false))) (by kernel_rfl) (by kernel_rfl) (by kernel_rfl) (by kernel_rfl) (fun _ => rfl) (fun hb => gc_f rfl hb)) fun y5 h => ?_
   let a7 : St := a6.p [(41, (vB y5)), (40, (vB y5)), (39, (.ite (gF y4) (vB (decide (12 < (ln p0.order)))))), (38, (.ite (gF y4) (vI (ln p0.order)))), (37, (.ite (gF y4) (.d (.sl 11 (p0.order.map cGSortKey))))), (36, (.ite (gF y4) (.ptr 1 4)))]
   refine st 1 a7 (gp true y5 (.ptr 1 5) (fun hc => vl) (gp true y5 (vI p0.limit) (fun hc => vg hc) (gp true y5 (vB (decide (p0.limit < (-1)))) (fun hc => vg hc) (vs (fun (y : Bool) => (vB y)) h (fun y hy => vop_pickV hy (p := true) (q := (true && (y5 == false))) (by kernel_rfl) (by kernel_rfl) (by kernel_rfl) (by kernel_rfl) (fun _ => rfl) (fun hb => gc_f rfl hb)) fun y6 h => (nx ?_)))))
   refine cd h (fun h => ?_) fun h => ?_
   refine so ?_
   let a8 : St := a7.p [(2, (vB false)), (45, (vB y6)), (44, (.ite (gF y5) (vB (decide (p0.limit < (-1)))))), (43, (.ite (gF y5) (vI p0.limit))), (42, (.ite (gF y5) (.ptr 1 5)))]
   refine st 1 a8 (nx (ri (tr ?_)))
   injection h with h; subst h
   exact r1 (v := (vB false))
   refine ki (xi (si (so ?_)))
   let a9 : St := a7.p [(47, (.d (.sl 13 (p0.items.map cGItem)))), (46, (.ptr 1 1)), (45, (vB y6)), (44, (.ite (gF y5) (vB (decide (p0.limit < (-1)))))), (43, (.ite (gF y5) (vI p0.limit))), (42, (.ite (gF y5) (.ptr 1 5)))]
   refine st 2 a9 (ps (vI (ln p0.items)) (vln (sz := 13) (l := p0.items) (f := cGItem)) ?_)
   let a10 : St := a9.p [(49, (vI 0)), (48, (vI (ln p0.items)))]
   exact st 1 a10 (nx (bi (loop_go (s' := stiIsFormedQuery_L0 p0 0) (wr [] (es (es (es (es er_nil)))) (bs_ br_nil)) (OK_iIsFormedQuery_L0 p0 0 _ h))))
 · intro F_iIsFormedQuery_L1 F_iIsFormedQuery_L0 OK_iIsFormedQuery_L1 OK_iIsFormedQuery_L0 p0 x49 r h
   delta aciIsFormedQuery_L0
   refine loop_unroll (so ?_)
   let a11 : St := (stiIsFormedQuery_L0 p0 x49).p [(50, (vB (decide (x49 < (ln p0.items)))))]
   refine st 1 a11 (nx (si ?_))
   refine cd h (fun h => ?_) fun h => ?_
   refine ki (xi (si (bi (so (vs (fun (y : GItem) => (.rp (oGItem y))) h (fun y hy => via (l := p0.items) (f := cGItem) (g := oGItem) (k := .i64) hy cGItem_eq) fun y7 h => ?_)))))
   let a12 : St := ⟨(4, (.ptr 4 0)) :: (52, (vGItem y7)) :: (51, (.rp (oGItem y7))) :: a11.env, [(4, bGItem y7), (1, bGQuery p0)]⟩
   refine st 3 a12 (nx (so ?_))
   let a13 : St := a12.p [(55, (vB y7.star)), (54, (vB y7.star)), (53, (.ptr 4 0))]
   refine st 3 a13 (gp true y7.star (.ptr 4 1) (fun hc => vl) (gp true y7.star (vS y7.qual) (fun hc => vg hc) ?_))
   refine gcall_step (p := true) (b := y7.star) (m := iIsAs y7.qual) (dflt := default) (args := [(vS y7.qual)]) (v' := (fun y => (vB y))) h (by kernel_rfl) (OK_iIsAs y7.qual) (fun hc => by kernel_rfl) (by kernel_rfl) (fun _ => rfl) (fun hc => (Eq.trans (b := ([(true && (y7.star == true))] : List Bool).all id) (by kernel_rfl) (all_c hc rfl))) ?_
   clear h; intro y8 h
   refine gp true y7.star (vB (!y8)) (fun hc => vg hc) (gp true y7.star (vB (!y8)) (fun hc => vg hc) (gp (true && (y7.star == true)) (!y8) (.ptr 4 12) (fun hc => vl) (gp (true && (y7.star == true)) (!y8) (vS y7.as_) (fun hc => vg hc) (gp (true && (y7.star == true)) (!y8) (vB (!decide (y7.as_ = []))) (fun hc => vg hc) ?_))))
   refine gv true y7.star (fun (y : Bool) => (vB y)) h (fun y hy hc => vop_pickV hy (p := true) (q := ((true && (y7.star == true)) && ((!y8) == false))) (Eq.trans (b := ([(true && (y7.star == true))] : List Bool).all id) (by kernel_rfl) (all_c hc rfl)) (by kernel_rfl) (by kernel_rfl) (by kernel_rfl) (fun _ => rfl) (fun hb => gc_f hc hb)) fun y9 h => (gp true y7.star (vB y9) (fun hc => vg hc) ?_)
   refine gp (true && (y7.star == true)) y9 (.ptr 4 2) (fun hc => vl) (gp (true && (y7.star == true)) y9 (vGExpr y7.expr) (fun hc => vg hc) ?_)
   refine gcall_step (p := (true && (y7.star == true))) (b := y9) (m := iIsZero y7.expr) (dflt := default) (args := [(vGExpr y7.expr)]) (v' := (fun y => (vB y))) h (by kernel_rfl) (OK_iIsZero y7.expr) (fun hc => by kernel_rfl) (by kernel_rfl) (fun _ => rfl) (fun hc => (Eq.trans (b := ([((true && (y7.star == true)) && (y9 == false))] : List Bool).all id) (by kernel_rfl) (all_c hc rfl))) ?_
   clear h; intro y10 h
   refine gp (true && (y7.star == true)) y9 (vB (!y10)) (fun hc => vg hc) ?_
   refine gv true y7.star (fun (y : Bool) => (vB y)) h (fun y hy hc => vop_pickV hy (p := true) (q := ((true && (y7.star == true)) && (y9 == false))) (Eq.trans (b := ([(true && (y7.star == true))] : List Bool).all id) (by kernel_rfl) (all_c hc rfl)) (by kernel_rfl) (by kernel_rfl) (by kernel_rfl) (fun _ => rfl) (fun hb => gc_f hc hb)) fun y11 h => ?_
   refine vs (fun (y : Bool) => (vB y)) h (fun y hy => vop_pickV hy (p := (true && (y7.star == true))) (q := true) (by kernel_rfl) (by kernel_rfl) (by kernel_rfl) (by kernel_rfl) (fun hb => gc_t rfl hb) (fun _ => rfl)) fun y12 h => ?_
   let a14 : St := a13.p [(72, (vB y12)), (71, (vB y12)), (70, (.ite (true && (y7.star == true)) (vB y11))), (69, (.ite ((true && (y7.star == true)) && (y9 == false)) (vB (!y10)))), (68, (.ite ((true && (y7.star == true)) && (y9 == false)) (vB y10))), (67, (.ite ((true && (y7.star == true)) && (y9 == false)) (vGExpr y7.expr))), (66, (.ite ((true && (y7.star == true)) && (y9 == false)) (.ptr 4 2))), (65, (.ite (true && (y7.star == true)) (vB y9))), (64, (.ite (true && (y7.star == true)) (vB y9))), (63, (.ite ((true && (y7.star == true)) && ((!y8) == false)) (vB (!decide (y7.as_ = []))))), (62, (.ite ((true && (y7.star == true)) && ((!y8) == false)) (vS y7.as_))), (61, (.ite ((true && (y7.star == true)) && ((!y8) == false)) (.ptr 4 12))), (60, (.ite (true && (y7.star == true)) (vB (!y8)))), (59, (.ite (true && (y7.star == true)) (vB (!y8)))), (58, (.ite (true && (y7.star == true)) (vB y8))), (57, (.ite (true && (y7.star == true)) (vS y7.qual))), (56, (.ite (true && (y7.star == true)) (.ptr 4 1)))]
   refine st 1 a14 (gp true y12 (.ptr 4 0) (fun hc => vl) (gp true y12 (vB y7.star) (fun hc => vg hc) (gp true y12 (vB (!y7.star)) (fun hc => vg hc) (gp true y12 (vB (!y7.star)) (fun hc => vg hc) (gp (true && (y12 == false)) (!y7.star) (.ptr 4 1) (fun hc => vl) (gp (true && (y12 == false)) (!y7.star) (vS y7.qual) (fun hc => vg hc) (gp (true && (y12 == false)) (!y7.star) (vB (!decide (y7.qual = []))) (fun hc => vg hc) ?_)))))))
   refine gp (true && (y12 == false)) (!y7.star) (vB (!decide (y7.qual = []))) (fun hc => vg hc) (gp ((true && (y12 == false)) && ((!y7.star) == true)) (!decide (y7.qual = [])) (.ptr 4 12) (fun hc => vl) ?_)
   refine gp ((true && (y12 == false)) && ((!y7.star) == true)) (!decide (y7.qual = [])) (vS y7.as_) (fun hc => vop_val1 (Eq.trans (b := ([(((true && (y12 == false)) && ((!y7.star) == true)) && ((!decide (y7.qual = [])) == false))] : List Bool).all id) (by kernel_rfl) (all_c hc rfl)) (by kernel_rfl)) ?_
   refine gcall_step (p := ((true && (y12 == false)) && ((!y7.star) == true))) (b := (!decide (y7.qual = []))) (m := iIsAs y7.as_) (dflt := default) (args := [(vS y7.as_)]) (v' := (fun y => (vB y))) h (by kernel_rfl) (OK_iIsAs y7.as_) (fun hc => by kernel_rfl) (by kernel_rfl) (fun _ => rfl) (fun hc => (Eq.trans (b := ([(((true && (y12 == false)) && ((!y7.star) == true)) && ((!decide (y7.qual = [])) == false))] : List Bool).all id) (by kernel_rfl) (all_c hc rfl))) ?_
   clear h; intro y13 h
   refine gp ((true && (y12 == false)) && ((!y7.star) == true)) (!decide (y7.qual = [])) (vB (!y13)) (fun hc => vop_val1 (Eq.trans (b := ([(((true && (y12 == false)) && ((!y7.star) == true)) && ((!decide (y7.qual = [])) == false))] : List Bool).all id) (by kernel_rfl) (all_c hc rfl)) (by kernel_rfl)) ?_
   refine gv (true && (y12 == false)) (!y7.star) (fun (y : Bool) => (vB y)) h (fun y hy hc => vop_pickV hy (p := true) (q := (((true && (y12 == false)) && ((!y7.star) == true)) && ((!decide (y7.qual = [])) == false))) (Eq.trans (b := ([((true && (y12 == false)) && ((!y7.star) == true))] : List Bool).all id) (by kernel_rfl) (all_c hc rfl)) (by kernel_rfl) (by kernel_rfl) (by kernel_rfl) (fun _ => rfl) (fun hb => gc_f hc hb)) fun y14 h => ?_
   refine gv true y12 (fun (y : Bool) => (vB y)) h (fun y hy hc => vop_pickV hy (p := ((true && (y12 == false)) && ((!y7.star) == true))) (q := true) (Eq.trans (b := ([(true && (y12 == false))] : List Bool).all id) (by kernel_rfl) (all_c hc rfl)) (by kernel_rfl) (by kernel_rfl) (by kernel_rfl) (fun hb => gc_t hc hb) (fun _ => rfl)) fun y15 h => ?_
   refine vs (fun (y : Bool) => (vB y)) h (fun y hy => vop_pickV hy (p := true) (q := (true && (y12 == false))) (by kernel_rfl) (by kernel_rfl) (by kernel_rfl) (by kernel_rfl) (fun _ => rfl) (fun hb => gc_f rfl hb)) fun y16 h => (nx ?_)
   refine cd h (fun h => ?_) fun h => ?_
   refine so ?_
   let a15 : St := a14.p [(2, (vB false)), (87, (vB y16)), (86, (.ite (gF y12) (vB y15))), (85, (.ite ((gF y12) && ((!y7.star) == true)) (vB y14))), (84, (.ite (((gF y12) && ((!y7.star) == true)) && ((!decide (y7.qual = [])) == false)) (vB (!y13)))), (83, (.ite (((gF y12) && ((!y7.star) == true)) && ((!decide (y7.qual = [])) == false)) (vB y13))), (82, (.ite (((gF y12) && ((!y7.star) == true)) && ((!decide (y7.qual = [])) == false)) (vS y7.as_))), (81, (.ite (((gF y12) && ((!y7.star) == true)) && ((!decide (y7.qual = [])) == false)) (.ptr 4 12))), (80, (.ite ((gF y12) && ((!y7.star) == true)) (vB (!decide (y7.qual = []))))), (79, (.ite ((gF y12) && ((!y7.star) == true)) (vB (!decide (y7.qual = []))))), (78, (.ite ((gF y12) && ((!y7.star) == true)) (vS y7.qual))), (77, (.ite ((gF y12) && ((!y7.star) == true)) (.ptr 4 1))), (76, (.ite (gF y12) (vB (!y7.star)))), (75, (.ite (gF y12) (vB (!y7.star)))), (74, (.ite (gF y12) (vB y7.star))), (73, (.ite (gF y12) (.ptr 4 0)))]
   refine st 1 a15 (nx (ri (br (tr (tr (br (tr ?_)))))))
   injection h with h; subst h
   exact r1 (v := (vB false))
   refine ki (bn (xi (oi ?_)))
   let a16 : St := a14.p [(49, (vI (IntKind.wrap .i64 (x49 + 1)))), (88, (vI (IntKind.wrap .i64 (x49 + 1)))), (87, (vB y16)), (86, (.ite (gF y12) (vB y15))), (85, (.ite ((gF y12) && ((!y7.star) == true)) (vB y14))), (84, (.ite (((gF y12) && ((!y7.star) == true)) && ((!decide (y7.qual = [])) == false)) (vB (!y13)))), (83, (.ite (((gF y12) && ((!y7.star) == true)) && ((!decide (y7.qual = [])) == false)) (vB y13))), (82, (.ite (((gF y12) && ((!y7.star) == true)) && ((!decide (y7.qual = [])) == false)) (vS y7.as_))), (81, (.ite (((gF y12) && ((!y7.star) == true)) && ((!decide (y7.qual = [])) == false)) (.ptr 4 12))), (80, (.ite ((gF y12) && ((!y7.star) == true)) (vB (!decide (y7.qual = []))))), (79, (.ite ((gF y12) && ((!y7.star) == true)) (vB (!decide (y7.qual = []))))), (78, (.ite ((gF y12) && ((!y7.star) == true)) (vS y7.qual))), (77, (.ite ((gF y12) && ((!y7.star) == true)) (.ptr 4 1))), (76, (.ite (gF y12) (vB (!y7.star)))), (75, (.ite (gF y12) (vB (!y7.star)))), (74, (.ite (gF y12) (vB y7.star))), (73, (.ite (gF y12) (.ptr 4 0)))]
   exact st 2 a16 (ni (loop_back (s' := stiIsFormedQuery_L0 p0 (IntKind.wrap .i64 (x49 + 1))) (wr [] (es (es (es (es er_nil)))) (bs_ br_nil)) (OK_iIsFormedQuery_L0 p0 (IntKind.wrap .i64 (x49 + 1)) _ h)))
   refine ei (te (te (bh (xi (si (so ?_))))))
   let a17 : St := a11.p [(90, (.d (.sl 3 (p0.from_.map cGSource)))), (89, (.ptr 1 2))]
   refine st 2 a17 (ps (vI (ln p0.from_)) (vln (sz := 3) (l := p0.from_) (f := cGSource)) ?_)
   let a18 : St := a17.p [(92, (vI 0)), (91, (vI (ln p0.from_)))]
   exact st 1 a18 (nx (bi (loop_go (s' := stiIsFormedQuery_L1 p0 0) (wr [] (es (es (es (es er_nil)))) (bs_ br_nil)) (OK_iIsFormedQuery_L1 p0 0 _ h))))
theorem OK_iIsFormedQuery_L1 (p0 : GQuery) (x92 : Int) (r : Bool) (h : iIsFormedQuery_L1 p0 x92 = some r) : avc Tryz.prog aciIsFormedQuery_L1 (qiIsFormedQuery_3 r) (stiIsFormedQuery_L1 p0 x92) := (OKs_iIsFormedQuery_L1).1 p0 x92 r h
theorem OK_iAreFormed (p0 : (List GExpr)) : FOk Tryz.prog 26 [(.d (.sl 10 (p0.map cGExpr)))] (fun y => (vB y)) (iAreFormed p0) := fun r h => (OKs_iIsFormedQuery_L1).2.1 p0 r h
theorem OK_gZ6 (p0 : (List GExpr)) : FOk Tryz.prog 66 [(.d (.sl 10 (p0.map cGExpr))), (.fn 67 [])] (fun y => (vB y)) (gZ6 p0) := fun r h => (OKs_iIsFormedQuery_L1).2.2.1 p0 r h
theorem OK_gZ9 (p0 : (List GExpr)) : FOk Tryz.prog 96 [(.d (.sl 10 (p0.map cGExpr))), (.fn 67 [])] (fun y => (vI y)) (gZ9 p0) := fun r h => (OKs_iIsFormedQuery_L1).2.2.2.1 p0 r h
theorem OK_gZ9_L0 (p0 : (List GExpr)) (x8 : Int) (r : Int) (h : gZ9_L0 p0 x8 = some r) : avc Tryz.prog acgZ9_L0 (qgZ9_1 r) (stgZ9_L0 p0 x8) := (OKs_iIsFormedQuery_L1).2.2.2.2.1 p0 x8 r h
theorem OK_iAreFormed_1 (p0 : GExpr) : FOk Tryz.prog 67 [(vGExpr p0)] (fun y => (vB y)) (iAreFormed_1 p0) := fun r h => (OKs_iIsFormedQuery_L1).2.2.2.2.2.1 p0 r h
theorem OK_iIsFormed (p0 : GExpr) : FOk Tryz.prog 68 [(vGExpr p0)] (fun y => (vB y)) (iIsFormed p0) := fun r h => (OKs_iIsFormedQuery_L1).2.2.2.2.2.2.1 p0 r h
theorem OK_gZ5 (p0 : (List GQuery)) : FOk Tryz.prog 98 [(.d (.sl 6 (p0.map cGQuery))), (.fn 99 [])] (fun y => (vB y)) (gZ5 p0) := fun r h => (OKs_iIsFormedQuery_L1).2.2.2.2.2.2.2.1 p0 r h
theorem OK_gZ8 (p0 : (List GQuery)) : FOk Tryz.prog 111 [(.d (.sl 6 (p0.map cGQuery))), (.fn 99 [])] (fun y => (vI y)) (gZ8 p0) := fun r h => (OKs_iIsFormedQuery_L1).2.2.2.2.2.2.2.2.1 p0 r h
theorem OK_gZ8_L0 (p0 : (List GQuery)) (x8 : Int) (r : Int) (h : gZ8_L0 p0 x8 = some r) : avc Tryz.prog acgZ8_L0 (qgZ8_1 r) (stgZ8_L0 p0 x8) := (OKs_iIsFormedQuery_L1).2.2.2.2.2.2.2.2.2.1 p0 x8 r h
theorem OK_iIsFormed_1 (p0 : GQuery) : FOk Tryz.prog 99 [(vGQuery p0)] (fun y => (vB y)) (iIsFormed_1 p0) := fun r h => (OKs_iIsFormedQuery_L1).2.2.2.2.2.2.2.2.2.2.1 p0 r h
theorem OK_iIsFormedQuery (p0 : GQuery) : FOk Tryz.prog 23 [(vGQuery p0)] (fun y => (vB y)) (iIsFormedQuery p0) := fun r h => (OKs_iIsFormedQuery_L1).2.2.2.2.2.2.2.2.2.2.2.1 p0 r h
theorem OK_iIsFormedQuery_L0 (p0 : GQuery) (x49 : Int) (r : Bool) (h : iIsFormedQuery_L0 p0 x49 = some r) : avc Tryz.prog aciIsFormedQuery_L0 (qiIsFormedQuery_1 r) (stiIsFormedQuery_L0 p0 x49) := (OKs_iIsFormedQuery_L1).2.2.2.2.2.2.2.2.2.2.2.2 p0 x49 r h
theorem OK_iIsSmall (p0 : Int) (p1 : Int) : FOk Tryz.prog 20 [(vI p0), (vI p1)] (fun y => (vB y)) (iIsSmall p0 p1) := by
 intro r h
 rw [iIsSmall] at h
 refine aof triIsSmall ?_
 show avc Tryz.prog aciIsSmall (qiIsSmall _) ⟨[(0, (vI p0)), (1, (vI p1))], []⟩
 delta aciIsSmall
 refine so ?_
 let a0 : St := ⟨[(4, (vB false)), (0, (vI p0)), (1, (vI p1))], []⟩
 refine st 1 a0 (nx (so ?_))
 let a1 : St := a0.p [(7, (vB (decide (p0 ≤ 24)))), (6, (vB (decide (p0 ≤ 24)))), (5, (vI p0))]
 refine st 3 a1 (gp true (decide (p0 ≤ 24)) (vI p1) (fun hc => vl) (gp true (decide (p0 ≤ 24)) (vB (decide (p1 ≤ 200))) (fun hc => vg hc) (vs (fun (y : Bool) => (vB y)) h (fun y hy => vop_pickV hy (p := (true && ((decide (p0 ≤ 24)) == true))) (q := true) (by kernel_rfl) (by kernel_rfl) (by kernel_rfl) (by kernel_rfl) (fun hb => gc_t rfl hb) (fun _ => rfl)) fun y1 h => ?_)))
 let a2 : St := a1.p [(4, (vB y1)), (10, (vB y1)), (9, (.ite (true && ((decide (p0 ≤ 24)) == true)) (vB (decide (p1 ≤ 200))))), (8, (.ite (true && ((decide (p0 ≤ 24)) == true)) (vI p1)))]
 refine st 1 a2 (nx (ri ?_))
 injection h with h; subst h
 exact r1 (v := (vB y1))
theorem OKs_iQueryDepth : (∀ (p0 : GQuery) (r : Int), iQueryDepth p0 = some r → ACalls Tryz.prog 108 [(vGQuery p0)] [] fun x _ => x = (fun y => (vI y)) r) ∧ (∀ (p0 : (List GExpr)) (r : Int), iDeepestOf p0 = some r → ACalls Tryz.prog 53 [(.d (.sl 10 (p0.map cGExpr)))] [] fun x _ => x = (fun y => (vI y)) r) ∧ (∀ (p0 : (List GExpr)) (x3 : Int) (x8 : Int) (r : Int), iDeepestOf_L0 p0 x3 x8 = some r → avc Tryz.prog aciDeepestOf_L0 (qiDeepestOf_1 r) (stiDeepestOf_L0 p0 x3 x8)) ∧ (∀ (p0 : GExpr) (r : Int), iDepthOf p0 = some r → ACalls Tryz.prog 92 [(vGExpr p0)] [] fun x _ => x = (fun y => (vI y)) r) ∧ (∀ (p0 : GExpr) (x3 : Int) (x11 : Int) (r : Int), iDepthOf_L0 p0 x3 x11 = some r → avc Tryz.prog aciDepthOf_L0 (qiDepthOf_1 r) (stiDepthOf_L0 p0 x3 x11)) ∧ (∀ (p0 : GExpr) (x3_3 : Int) (x23 : Int) (r : Int), iDepthOf_L1 p0 x3_3 x23 = some r → avc Tryz.prog aciDepthOf_L1 (qiDepthOf_3 r) (stiDepthOf_L1 p0 x3_3 x23)) := by
 refine iQueryDepth.mutual_partial_correctness (fun p0 r => ACalls Tryz.prog 108 [(vGQuery p0)] [] fun x _ => x = (fun y => (vI y)) r) (fun p0 r => ACalls Tryz.prog 53 [(.d (.sl 10 (p0.map cGExpr)))] [] fun x _ => x = (fun y => (vI y)) r) (fun p0 x3 x8 r => avc Tryz.prog aciDeepestOf_L0 (qiDeepestOf_1 r) (stiDeepestOf_L0 p0 x3 x8)) (fun p0 r => ACalls Tryz.prog 92 [(vGExpr p0)] [] fun x _ => x = (fun y => (vI y)) r) (fun p0 x3 x11 r => avc Tryz.prog aciDepthOf_L0 (qiDepthOf_1 r) (stiDepthOf_L0 p0 x3 x11)) (fun p0 x3_3 x23 r => avc Tryz.prog aciDepthOf_L1 (qiDepthOf_3 r) (stiDepthOf_L1 p0 x3_3 x23)) ?_ ?_ ?_ ?_ ?_ ?_
 · intro F_iDeepestOf OK_iDeepestOf p0 r h
   refine aof triQueryDepth ?_
   show avc Tryz.prog aciQueryDepth (qiQueryDepth _) ⟨[(0, (vGQuery p0))], []⟩
   delta aciQueryDepth
   refine so ?_
   let a0 : St := ⟨[(2, (vI 0)), (1, (.ptr 1 0)), (0, (vGQuery p0))], [(1, bGQuery p0)]⟩
   refine st 2 a0 (nx (so ?_))
   let a1 : St := a0.p [(3, (vGQuery p0))]
   refine st 1 a1 (callg_step ⟨[], [], [], [], [], [(2000000, 4)], [], [4]⟩ (m := iQuery_exprs p0) (S' := fun (y : (List GExpr)) => ⟨(4, (.osl 4 82 10 (y.map cGExpr))) :: a1.env, a1.bx⟩) h (OK_iQuery_exprs p0) (by kernel_rfl) (by kernel_rfl) (by kernel_rfl) (by kernel_rfl) (fun y => by kernel_rfl) (fun y => by kernel_rfl) ?_)
   clear h; intro y1 h
   refine cs h (OK_iDeepestOf y1) fun y2 h => ?_
   let a2 : St := a1.p [(2, (vI y2)), (5, (vI y2)), (4, (.osl 4 82 10 (y1.map cGExpr)))]
   refine st 1 a2 (nx (ri ?_))
   injection h with h; subst h
   exact r1 (v := (vI y2))
 · intro F_iDeepestOf_L0 OK_iDeepestOf_L0 p0 r h
   refine aof triDeepestOf ?_
   show avc Tryz.prog aciDeepestOf (qiDeepestOf _) ⟨[(0, (.d (.sl 10 (p0.map cGExpr))))], []⟩
   delta aciDeepestOf
   refine so ?_
   let a0 : St := ⟨[(2, (vI 0)), (0, (.d (.sl 10 (p0.map cGExpr))))], []⟩
   refine st 1 a0 (nx (so ?_))
   let a1 : St := a0.p [(3, (vI 0))]
   refine st 1 a1 (nx (si (so ?_)))
   let a2 : St := a1.p [(6, (.d (.sl 10 (p0.map cGExpr))))]
   refine st 1 a2 (ps (vI (ln p0)) (vln (sz := 10) (l := p0) (f := cGExpr)) ?_)
   let a3 : St := a2.p [(8, (vI 0)), (7, (vI (ln p0)))]
   exact st 1 a3 (nx (bi (loop_go (s' := stiDeepestOf_L0 p0 0 0) (wr [] (es (es (es (es er_nil)))) br_nil) (OK_iDeepestOf_L0 p0 0 0 _ h))))
 · intro F_iDeepestOf_L0 F_iDepthOf OK_iDeepestOf_L0 OK_iDepthOf p0 x3 x8 r h
   delta aciDeepestOf_L0
   refine loop_unroll (so ?_)
   let a4 : St := (stiDeepestOf_L0 p0 x3 x8).p [(9, (vB (decide (x8 < (ln p0)))))]
   refine st 1 a4 (nx (si ?_))
   refine cd h (fun h => ?_) fun h => ?_
   refine ki (xi (si (bi (so (vs (fun (y : GExpr) => (.rp (oGExpr y))) h (fun y hy => via (l := p0) (f := cGExpr) (g := oGExpr) (k := .i64) hy cGExpr_eq) fun y1 h => ?_)))))
   let a5 : St := ⟨(5, (.ptr 5 0)) :: (11, (vGExpr y1)) :: (10, (.rp (oGExpr y1))) :: a4.env, [(5, bGExpr y1)]⟩
   refine st 3 a5 (nx (oi ?_))
   let a6 : St := a5.p [(13, (vGExpr y1)), (12, (vI x3))]
   refine st 2 a6 (cs h (OK_iDepthOf y1) fun y2 h => ?_)
   let a7 : St := a6.p [(3, (vI (if y2 > x3 then y2 else x3))), (15, (vI (if y2 > x3 then y2 else x3))), (14, (vI y2))]
   refine st 2 a7 (ni (bn (xi (oi ?_))))
   let a8 : St := a7.p [(8, (vI (IntKind.wrap .i64 (x8 + 1)))), (16, (vI (IntKind.wrap .i64 (x8 + 1))))]
   exact st 2 a8 (ni (loop_back (s' := stiDeepestOf_L0 p0 (if y2 > x3 then y2 else x3) (IntKind.wrap .i64 (x8 + 1))) (wr [] (es (es (es (es er_nil)))) br_nil) (OK_iDeepestOf_L0 p0 (if y2 > x3 then y2 else x3) (IntKind.wrap .i64 (x8 + 1)) _ h)))
   refine ei (te (te (bh (xi (so ?_)))))
   let a9 : St := a4.p [(2, (vI x3)), (17, (vI x3))]
   refine st 2 a9 (nx (ri ?_))
   injection h with h; subst h
   exact r1 (v := (vI x3))
 · intro F_iDepthOf_L0 OK_iDepthOf_L0 p0 r h
   refine aof triDepthOf ?_
   show avc Tryz.prog aciDepthOf (qiDepthOf _) ⟨[(0, (vGExpr p0))], []⟩
   delta aciDepthOf
   refine so ?_
   let a0 : St := ⟨[(2, (vI 0)), (1, (.ptr 1 0)), (0, (vGExpr p0))], [(1, bGExpr p0)]⟩
   refine st 2 a0 (nx (so ?_))
   let a1 : St := a0.p [(3, (vI 0))]
   refine st 1 a1 (nx (si (so ?_)))
   let a2 : St := a1.p [(9, (.d (.sl 10 (p0.kids.map cGExpr)))), (8, (.ptr 1 8))]
   refine st 2 a2 (ps (vI (ln p0.kids)) (vln (sz := 10) (l := p0.kids) (f := cGExpr)) ?_)
   let a3 : St := a2.p [(11, (vI 0)), (10, (vI (ln p0.kids)))]
   exact st 1 a3 (nx (bi (loop_go (s' := stiDepthOf_L0 p0 0 0) (wr [] (es (es (es (es (es er_nil))))) (bs_ br_nil)) (OK_iDepthOf_L0 p0 0 0 _ h))))
 · intro F_iDepthOf F_iDepthOf_L0 F_iDepthOf_L1 OK_iDepthOf OK_iDepthOf_L0 OK_iDepthOf_L1 p0 x3 x11 r h
   delta aciDepthOf_L0
   refine loop_unroll (so ?_)
   let a4 : St := (stiDepthOf_L0 p0 x3 x11).p [(12, (vB (decide (x11 < (ln p0.kids)))))]
   refine st 1 a4 (nx (si ?_))
   refine cd h (fun h => ?_) fun h => ?_
   refine ki (xi (si (bi (so (vs (fun (y : GExpr) => (.rp (oGExpr y))) h (fun y hy => via (l := p0.kids) (f := cGExpr) (g := oGExpr) (k := .i64) hy cGExpr_eq) fun y1 h => ?_)))))
   let a5 : St := ⟨(5, (.ptr 5 0)) :: (14, (vGExpr y1)) :: (13, (.rp (oGExpr y1))) :: a4.env, [(5, bGExpr y1), (1, bGExpr p0)]⟩
   refine st 3 a5 (nx (oi ?_))
   let a6 : St := a5.p [(16, (vGExpr y1)), (15, (vI x3))]
   refine st 2 a6 (cs h (OK_iDepthOf y1) fun y2 h => ?_)
   let a7 : St := a6.p [(3, (vI (if y2 > x3 then y2 else x3))), (18, (vI (if y2 > x3 then y2 else x3))), (17, (vI y2))]
   refine st 2 a7 (ni (bn (xi (oi ?_))))
   let a8 : St := a7.p [(11, (vI (IntKind.wrap .i64 (x11 + 1)))), (19, (vI (IntKind.wrap .i64 (x11 + 1))))]
   exact st 2 a8 (ni (loop_back (s' := stiDepthOf_L0 p0 (if y2 > x3 then y2 else x3) (IntKind.wrap .i64 (x11 + 1))) (wr [] (es (es (es (es (es er_nil))))) (bs_ br_nil)) (OK_iDepthOf_L0 p0 (if y2 > x3 then y2 else x3) (IntKind.wrap .i64 (x11 + 1)) _ h)))
   refine ei (te (te (bh (xi (si (so ?_))))))
   let a9 : St := a4.p [(21, (.d (.sl 6 (p0.sub.map cGQuery)))), (20, (.ptr 1 9))]
   refine st 2 a9 (ps (vI (ln p0.sub)) (vln (sz := 6) (l := p0.sub) (f := cGQuery)) ?_)
   let a10 : St := a9.p [(23, (vI 0)), (22, (vI (ln p0.sub)))]
   exact st 1 a10 (nx (bi (loop_go (s' := stiDepthOf_L1 p0 x3 0) (wr [] (es (es (es (es er_nil)))) br_nil) (OK_iDepthOf_L1 p0 x3 0 _ h))))
 · intro F_iQueryDepth F_iDepthOf_L1 OK_iQueryDepth OK_iDepthOf_L1 p0 x3_3 x23 r h
   delta aciDepthOf_L1
   refine loop_unroll (so ?_)
   let a11 : St := (stiDepthOf_L1 p0 x3_3 x23).p [(24, (vB (decide (x23 < (ln p0.sub)))))]
   refine st 1 a11 (nx (si ?_))
   refine cd h (fun h => ?_) fun h => ?_
   refine ki (xi (si (bi (so (vs (fun (y : GQuery) => (.rp (oGQuery y))) h (fun y hy => via (l := p0.sub) (f := cGQuery) (g := oGQuery) (k := .i64) hy cGQuery_eq) fun y4 h => ?_)))))
   let a12 : St := ⟨(7, (.ptr 7 0)) :: (26, (vGQuery y4)) :: (25, (.rp (oGQuery y4))) :: a11.env, [(7, bGQuery y4)]⟩
   refine st 3 a12 (nx (oi ?_))
   let a13 : St := a12.p [(28, (vGQuery y4)), (27, (vI x3_3))]
   refine st 2 a13 (cs h (OK_iQueryDepth y4) fun y5 h => ?_)
   let a14 : St := a13.p [(3, (vI (if y5 > x3_3 then y5 else x3_3))), (30, (vI (if y5 > x3_3 then y5 else x3_3))), (29, (vI y5))]
   refine st 2 a14 (ni (bn (xi (oi ?_))))
   let a15 : St := a14.p [(23, (vI (IntKind.wrap .i64 (x23 + 1)))), (31, (vI (IntKind.wrap .i64 (x23 + 1))))]
   exact st 2 a15 (ni (loop_back (s' := stiDepthOf_L1 p0 (if y5 > x3_3 then y5 else x3_3) (IntKind.wrap .i64 (x23 + 1))) (wr [] (es (es (es (es er_nil)))) br_nil) (OK_iDepthOf_L1 p0 (if y5 > x3_3 then y5 else x3_3) (IntKind.wrap .i64 (x23 + 1)) _ h)))
   refine ei (te (te (bh (xi (so ?_)))))
   let a16 : St := a11.p [(2, (vI (IntKind.wrap .i64 (1 + x3_3)))), (33, (vI (IntKind.wrap .i64 (1 + x3_3)))), (32, (vI x3_3))]
   refine st 3 a16 (nx (ri ?_))
   injection h with h; subst h
   exact r1 (v := (vI (IntKind.wrap .i64 (1 + x3_3))))
theorem OK_iQueryDepth (p0 : GQuery) : FOk Tryz.prog 108 [(vGQuery p0)] (fun y => (vI y)) (iQueryDepth p0) := fun r h => (OKs_iQueryDepth).1 p0 r h
theorem OK_iDeepestOf (p0 : (List GExpr)) : FOk Tryz.prog 53 [(.d (.sl 10 (p0.map cGExpr)))] (fun y => (vI y)) (iDeepestOf p0) := fun r h => (OKs_iQueryDepth).2.1 p0 r h
theorem OK_iDeepestOf_L0 (p0 : (List GExpr)) (x3 : Int) (x8 : Int) (r : Int) (h : iDeepestOf_L0 p0 x3 x8 = some r) : avc Tryz.prog aciDeepestOf_L0 (qiDeepestOf_1 r) (stiDeepestOf_L0 p0 x3 x8) := (OKs_iQueryDepth).2.2.1 p0 x3 x8 r h
theorem OK_iDepthOf (p0 : GExpr) : FOk Tryz.prog 92 [(vGExpr p0)] (fun y => (vI y)) (iDepthOf p0) := fun r h => (OKs_iQueryDepth).2.2.2.1 p0 r h
theorem OK_iDepthOf_L0 (p0 : GExpr) (x3 : Int) (x11 : Int) (r : Int) (h : iDepthOf_L0 p0 x3 x11 = some r) : avc Tryz.prog aciDepthOf_L0 (qiDepthOf_1 r) (stiDepthOf_L0 p0 x3 x11) := (OKs_iQueryDepth).2.2.2.2.1 p0 x3 x11 r h
theorem OK_iDepthOf_L1 (p0 : GExpr) (x3_3 : Int) (x23 : Int) (r : Int) (h : iDepthOf_L1 p0 x3_3 x23 = some r) : avc Tryz.prog aciDepthOf_L1 (qiDepthOf_3 r) (stiDepthOf_L1 p0 x3_3 x23) := (OKs_iQueryDepth).2.2.2.2.2 p0 x3_3 x23 r h
theorem OKs_iStmt_exprs_L0 (p0 : GStmt) : (∀ (x3 : (List GExpr)) (x12 : Int) (r : (List GExpr)), iStmt_exprs_L0 p0 x3 x12 = some r → avc Tryz.prog aciStmt_exprs_L0 (qiStmt_exprs_1 r) (stiStmt_exprs_L0 p0 x3 x12)) := by
 refine iStmt_exprs_L0.partial_correctness p0 (fun x3 x12 r => avc Tryz.prog aciStmt_exprs_L0 (qiStmt_exprs_1 r) (stiStmt_exprs_L0 p0 x3 x12)) ?_
 · intro F_iStmt_exprs_L0 OK_iStmt_exprs_L0 x3 x12 r h
   delta aciStmt_exprs_L0
   refine loop_unroll (so ?_)
   let a5 : St := (stiStmt_exprs_L0 p0 x3 x12).p [(13, (vB (decide (x12 < (ln p0.rows)))))]
   refine st 1 a5 (nx (si ?_))
   refine cd h (fun h => ?_) fun h => ?_
   refine ki (xi (si (bi (so (vs (fun (y : (List GExpr)) => (.rp [(.sl 10 (y.map cGExpr))])) h (fun y hy => via (l := p0.rows) (f := (cSl 10 cGExpr)) (g := (cSl 10 cGExpr)) (k := .i64) hy (fun _ => rfl)) fun y2 h => ?_)))))
   let a6 : St := a5.p [(5, (.d (.sl 10 (y2.map cGExpr)))), (15, (.d (.sl 10 (y2.map cGExpr)))), (14, (.rp [(.sl 10 (y2.map cGExpr))]))]
   refine st 2 a6 (nx (oi ?_))
   let a7 : St := a6.p [(17, (.d (.sl 10 (y2.map cGExpr)))), (16, (.osl 3 82 10 (x3.map cGExpr)))]
   refine st 2 a7 ?_
   refine app_step (t := 3) (l := x3) (m := y2) (f := cGExpr) (S' := fun y => ⟨[(18, (.osl 18 82 10 (y.map cGExpr))), (17, (.d (.sl 10 (y2.map cGExpr)))), (16, (.d (.sl 10 (x3.map cGExpr)))), (5, (.d (.sl 10 (y2.map cGExpr)))), (15, (.d (.sl 10 (y2.map cGExpr)))), (14, (.rp [(.sl 10 (y2.map cGExpr))])), (13, (vB (decide (x12 < (ln p0.rows))))), (1, (.ptr 1 0)), (3, (.d (.sl 10 (x3.map cGExpr)))), (10, (.d (.sl 1 (p0.rows.map (cSl 10 cGExpr))))), (11, (vI (ln p0.rows))), (12, (vI x12))], [(1, bGStmt p0)]⟩) h (by kernel_rfl) (by kernel_rfl) (by kernel_rfl) (by kernel_rfl) (fun y => by kernel_rfl) ?_
   clear h; intro y3 h
   let a8 : St := ⟨[(3, (.osl 3 82 10 (y3.map cGExpr))), (18, (.d (.sl 10 (y3.map cGExpr)))), (17, (.d (.sl 10 (y2.map cGExpr)))), (16, (.d (.sl 10 (x3.map cGExpr)))), (5, (.d (.sl 10 (y2.map cGExpr)))), (15, (.d (.sl 10 (y2.map cGExpr)))), (14, (.rp [(.sl 10 (y2.map cGExpr))])), (13, (vB (decide (x12 < (ln p0.rows))))), (1, (.ptr 1 0)), (3, (.d (.sl 10 (x3.map cGExpr)))), (10, (.d (.sl 1 (p0.rows.map (cSl 10 cGExpr))))), (11, (vI (ln p0.rows))), (12, (vI x12))], [(1, bGStmt p0)]⟩
   refine st 1 a8 (ni (bn (xi (oi ?_))))
   let a9 : St := a8.p [(12, (vI (IntKind.wrap .i64 (x12 + 1)))), (19, (vI (IntKind.wrap .i64 (x12 + 1))))]
   exact st 2 a9 (ni (loop_back (s' := stiStmt_exprs_L0 p0 y3 (IntKind.wrap .i64 (x12 + 1))) (wr [(3, .old 3)] (es (eo 3 (es (es (es er_nil))))) (bs_ br_nil)) (OK_iStmt_exprs_L0 y3 (IntKind.wrap .i64 (x12 + 1)) _ h)))
   refine ei (te (te (bh (xi (so ?_)))))
   let a10 : St := a5.p [(22, (.d (.sl 10 (p0.sets.map cGExpr)))), (21, (.ptr 1 10)), (20, (.osl 3 82 10 (x3.map cGExpr)))]
   refine st 3 a10 ?_
   refine app_step (t := 3) (l := x3) (m := p0.sets) (f := cGExpr) (S' := fun y => ⟨[(23, (.osl 23 82 10 (y.map cGExpr))), (22, (.d (.sl 10 (p0.sets.map cGExpr)))), (21, (.ptr 1 10)), (20, (.d (.sl 10 (x3.map cGExpr)))), (13, (vB (decide (x12 < (ln p0.rows))))), (1, (.ptr 1 0)), (3, (.d (.sl 10 (x3.map cGExpr)))), (10, (.d (.sl 1 (p0.rows.map (cSl 10 cGExpr))))), (11, (vI (ln p0.rows))), (12, (vI x12))], [(1, bGStmt p0)]⟩) h (by kernel_rfl) (by kernel_rfl) (by kernel_rfl) (by kernel_rfl) (fun y => by kernel_rfl) ?_
   clear h; intro y4 h
   let a11 : St := ⟨[(3, (.osl 3 82 10 (y4.map cGExpr))), (23, (.d (.sl 10 (y4.map cGExpr)))), (22, (.d (.sl 10 (p0.sets.map cGExpr)))), (21, (.ptr 1 10)), (20, (.d (.sl 10 (x3.map cGExpr)))), (13, (vB (decide (x12 < (ln p0.rows))))), (1, (.ptr 1 0)), (3, (.d (.sl 10 (x3.map cGExpr)))), (10, (.d (.sl 1 (p0.rows.map (cSl 10 cGExpr))))), (11, (vI (ln p0.rows))), (12, (vI x12))], [(1, bGStmt p0)]⟩
   refine st 1 a11 (nx (so ?_))
   let a12 : St := a11.p [(26, (.d (.sl 10 (p0.where_.map cGExpr)))), (25, (.ptr 1 11)), (24, (.osl 3 82 10 (y4.map cGExpr)))]
   refine st 3 a12 ?_
   refine app_step (t := 3) (l := y4) (m := p0.where_) (f := cGExpr) (S' := fun y => ⟨[(27, (.osl 27 82 10 (y.map cGExpr))), (26, (.d (.sl 10 (p0.where_.map cGExpr)))), (25, (.ptr 1 11)), (24, (.d (.sl 10 (y4.map cGExpr)))), (3, (.d (.sl 10 (y4.map cGExpr)))), (23, (.d (.sl 10 (y4.map cGExpr)))), (22, (.d (.sl 10 (p0.sets.map cGExpr)))), (21, (.ptr 1 10)), (20, (.d (.sl 10 (x3.map cGExpr)))), (13, (vB (decide (x12 < (ln p0.rows))))), (1, (.ptr 1 0)), (3, (.d (.sl 10 (x3.map cGExpr)))), (10, (.d (.sl 1 (p0.rows.map (cSl 10 cGExpr))))), (11, (vI (ln p0.rows))), (12, (vI x12))], [(1, bGStmt p0)]⟩) h (by kernel_rfl) (by kernel_rfl) (by kernel_rfl) (by kernel_rfl) (fun y => by kernel_rfl) ?_
   clear h; intro y5 h
   let a13 : St := ⟨[(2, (.osl 2 82 10 (y5.map cGExpr))), (27, (.d (.sl 10 (y5.map cGExpr)))), (26, (.d (.sl 10 (p0.where_.map cGExpr)))), (25, (.ptr 1 11)), (24, (.d (.sl 10 (y4.map cGExpr)))), (3, (.d (.sl 10 (y4.map cGExpr)))), (23, (.d (.sl 10 (y4.map cGExpr)))), (22, (.d (.sl 10 (p0.sets.map cGExpr)))), (21, (.ptr 1 10)), (20, (.d (.sl 10 (x3.map cGExpr)))), (13, (vB (decide (x12 < (ln p0.rows))))), (1, (.ptr 1 0)), (3, (.d (.sl 10 (x3.map cGExpr)))), (10, (.d (.sl 1 (p0.rows.map (cSl 10 cGExpr))))), (11, (vI (ln p0.rows))), (12, (vI x12))], [(1, bGStmt p0)]⟩
   refine st 1 a13 (nx (ret_wk (s' := ⟨[(2, (.osl 2000000 82 10 (y5.map cGExpr)))], []⟩) (wr [(2000000, .old 2)] (eo 2 er_nil) br_nil) ?_))
   injection h with h; subst h
   exact ret1_step (v := (.osl 2000000 82 10 (y5.map cGExpr))) (by kernel_rfl) (by kernel_rfl) ⟨by kernel_rfl, trivial⟩
theorem OK_iStmt_exprs_L0 (p0 : GStmt) (x3 : (List GExpr)) (x12 : Int) (r : (List GExpr)) (h : iStmt_exprs_L0 p0 x3 x12 = some r) : avc Tryz.prog aciStmt_exprs_L0 (qiStmt_exprs_1 r) (stiStmt_exprs_L0 p0 x3 x12) := (OKs_iStmt_exprs_L0 p0) x3 x12 r h
theorem OK_iStmt_exprs (p0 : GStmt) : FOkB Tryz.prog 27 [(vGStmt p0)] [] (fun (y : (List GExpr)) => (.osl 2000000 82 10 (y.map cGExpr))) (fun (y : (List GExpr)) => []) (iStmt_exprs p0) := by
 intro r h
 rw [iStmt_exprs] at h
 refine aof triStmt_exprs ?_
 show avc Tryz.prog aciStmt_exprs (qiStmt_exprs _) ⟨[(0, (vGStmt p0))], []⟩
 delta aciStmt_exprs
 refine so ?_
 let a0 : St := ⟨[(2, (.nil 10)), (1, (.ptr 1 0)), (0, (vGStmt p0))], [(1, bGStmt p0)]⟩
 refine st 2 a0 (nx (so ?_))
 let a1 : St := a0.p [(7, (vGQuery p0.query)), (6, (.ptr 1 1))]
 refine st 2 a1 (callg_step ⟨[], [], [], [], [], [(2000000, 8)], [], [8]⟩ (m := iQuery_exprs p0.query) (S' := fun (y : (List GExpr)) => ⟨(8, (.osl 8 82 10 (y.map cGExpr))) :: a1.env, a1.bx⟩) h (OK_iQuery_exprs p0.query) (by kernel_rfl) (by kernel_rfl) (by kernel_rfl) (by kernel_rfl) (fun y => by kernel_rfl) (fun y => by kernel_rfl) ?_)
 clear h; intro y1 h
 let a2 : St := a1.p [(3, (.osl 3 82 10 (y1.map cGExpr))), (8, (.d (.sl 10 (y1.map cGExpr))))]
 refine st 1 a2 (nx (si (so ?_)))
 let a3 : St := a2.p [(10, (.d (.sl 1 (p0.rows.map (cSl 10 cGExpr))))), (9, (.ptr 1 8))]
 refine st 2 a3 (ps (vI (ln p0.rows)) (vln (sz := 1) (l := p0.rows) (f := (cSl 10 cGExpr))) ?_)
 let a4 : St := a3.p [(12, (vI 0)), (11, (vI (ln p0.rows)))]
 exact st 1 a4 (nx (bi (loop_go (s' := stiStmt_exprs_L0 p0 y1 0) (wr [(3, .old 3)] (es (eo 3 (es (es (es er_nil))))) (bs_ br_nil)) (OK_iStmt_exprs_L0 p0 y1 0 _ h))))
theorem OK_iStmtDepth (p0 : GStmt) : FOk Tryz.prog 21 [(vGStmt p0)] (fun y => (vI y)) (iStmtDepth p0) := by
 intro r h
 rw [iStmtDepth] at h
 refine aof triStmtDepth ?_
 show avc Tryz.prog aciStmtDepth (qiStmtDepth _) ⟨[(0, (vGStmt p0))], []⟩
 delta aciStmtDepth
 refine so ?_
 let a0 : St := ⟨[(2, (vI 0)), (1, (.ptr 1 0)), (0, (vGStmt p0))], [(1, bGStmt p0)]⟩
 refine st 2 a0 (nx (so ?_))
 let a1 : St := a0.p [(3, (vGStmt p0))]
 refine st 1 a1 (callg_step ⟨[], [], [], [], [], [(2000000, 4)], [], [4]⟩ (m := iStmt_exprs p0) (S' := fun (y : (List GExpr)) => ⟨(4, (.osl 4 82 10 (y.map cGExpr))) :: a1.env, a1.bx⟩) h (OK_iStmt_exprs p0) (by kernel_rfl) (by kernel_rfl) (by kernel_rfl) (by kernel_rfl) (fun y => by kernel_rfl) (fun y => by kernel_rfl) ?_)
 clear h; intro y1 h
 refine cs h (OK_iDeepestOf y1) fun y2 h => ?_
 let a2 : St := a1.p [(2, (vI y2)), (5, (vI y2)), (4, (.osl 4 82 10 (y1.map cGExpr)))]
 refine st 1 a2 (nx (ri ?_))
 injection h with h; subst h
 exact r1 (v := (vI y2))
theorem OKs_iQuerySize : (∀ (p0 : GQuery) (r : Int), iQuerySize p0 = some r → ACalls Tryz.prog 109 [(vGQuery p0)] [] fun x _ => x = (fun y => (vI y)) r) ∧ (∀ (p0 : (List GExpr)) (r : Int), iSizeOfAll p0 = some r → ACalls Tryz.prog 54 [(.d (.sl 10 (p0.map cGExpr)))] [] fun x _ => x = (fun y => (vI y)) r) ∧ (∀ (p0 : (List GExpr)) (x3 : Int) (x8 : Int) (r : Int), iSizeOfAll_L0 p0 x3 x8 = some r → avc Tryz.prog aciSizeOfAll_L0 (qiSizeOfAll_1 r) (stiSizeOfAll_L0 p0 x3 x8)) ∧ (∀ (p0 : GExpr) (r : Int), iSizeOf p0 = some r → ACalls Tryz.prog 93 [(vGExpr p0)] [] fun x _ => x = (fun y => (vI y)) r) ∧ (∀ (p0 : GExpr) (x3 : Int) (x13 : Int) (r : Int), iSizeOf_L0 p0 x3 x13 = some r → avc Tryz.prog aciSizeOf_L0 (qiSizeOf_1 r) (stiSizeOf_L0 p0 x3 x13)) := by
 refine iQuerySize.mutual_partial_correctness (fun p0 r => ACalls Tryz.prog 109 [(vGQuery p0)] [] fun x _ => x = (fun y => (vI y)) r) (fun p0 r => ACalls Tryz.prog 54 [(.d (.sl 10 (p0.map cGExpr)))] [] fun x _ => x = (fun y => (vI y)) r) (fun p0 x3 x8 r => avc Tryz.prog aciSizeOfAll_L0 (qiSizeOfAll_1 r) (stiSizeOfAll_L0 p0 x3 x8)) (fun p0 r => ACalls Tryz.prog 93 [(vGExpr p0)] [] fun x _ => x = (fun y => (vI y)) r) (fun p0 x3 x13 r => avc Tryz.prog aciSizeOf_L0 (qiSizeOf_1 r) (stiSizeOf_L0 p0 x3 x13)) ?_ ?_ ?_ ?_ ?_
 · intro F_iSizeOfAll OK_iSizeOfAll p0 r h
   refine aof triQuerySize ?_
   show avc Tryz.prog aciQuerySize (qiQuerySize _) ⟨[(0, (vGQuery p0))], []⟩
   delta aciQuerySize
   refine so ?_
   let a0 : St := ⟨[(2, (vI 0)), (1, (.ptr 1 0)), (0, (vGQuery p0))], [(1, bGQuery p0)]⟩
   refine st 2 a0 (nx (so ?_))
   let a1 : St := a0.p [(3, (vGQuery p0))]
   refine st 1 a1 (callg_step ⟨[], [], [], [], [], [(2000000, 4)], [], [4]⟩ (m := iQuery_exprs p0) (S' := fun (y : (List GExpr)) => ⟨(4, (.osl 4 82 10 (y.map cGExpr))) :: a1.env, a1.bx⟩) h (OK_iQuery_exprs p0) (by kernel_rfl) (by kernel_rfl) (by kernel_rfl) (by kernel_rfl) (fun y => by kernel_rfl) (fun y => by kernel_rfl) ?_)
   clear h; intro y1 h
   refine cs h (OK_iSizeOfAll y1) fun y2 h => ?_
   let a2 : St := a1.p [(2, (vI y2)), (5, (vI y2)), (4, (.osl 4 82 10 (y1.map cGExpr)))]
   refine st 1 a2 (nx (ri ?_))
   injection h with h; subst h
   exact r1 (v := (vI y2))
 · intro F_iSizeOfAll_L0 OK_iSizeOfAll_L0 p0 r h
   refine aof triSizeOfAll ?_
   show avc Tryz.prog aciSizeOfAll (qiSizeOfAll _) ⟨[(0, (.d (.sl 10 (p0.map cGExpr))))], []⟩
   delta aciSizeOfAll
   refine so ?_
   let a0 : St := ⟨[(2, (vI 0)), (0, (.d (.sl 10 (p0.map cGExpr))))], []⟩
   refine st 1 a0 (nx (so ?_))
   let a1 : St := a0.p [(3, (vI 0))]
   refine st 1 a1 (nx (si (so ?_)))
   let a2 : St := a1.p [(6, (.d (.sl 10 (p0.map cGExpr))))]
   refine st 1 a2 (ps (vI (ln p0)) (vln (sz := 10) (l := p0) (f := cGExpr)) ?_)
   let a3 : St := a2.p [(8, (vI 0)), (7, (vI (ln p0)))]
   exact st 1 a3 (nx (bi (loop_go (s' := stiSizeOfAll_L0 p0 0 0) (wr [] (es (es (es (es er_nil)))) br_nil) (OK_iSizeOfAll_L0 p0 0 0 _ h))))
 · intro F_iSizeOfAll_L0 F_iSizeOf OK_iSizeOfAll_L0 OK_iSizeOf p0 x3 x8 r h
   delta aciSizeOfAll_L0
   refine loop_unroll (so ?_)
   let a4 : St := (stiSizeOfAll_L0 p0 x3 x8).p [(9, (vB (decide (x8 < (ln p0)))))]
   refine st 1 a4 (nx (si ?_))
   refine cd h (fun h => ?_) fun h => ?_
   refine ki (xi (si (bi (so (vs (fun (y : GExpr) => (.rp (oGExpr y))) h (fun y hy => via (l := p0) (f := cGExpr) (g := oGExpr) (k := .i64) hy cGExpr_eq) fun y1 h => ?_)))))
   let a5 : St := ⟨(5, (.ptr 5 0)) :: (11, (vGExpr y1)) :: (10, (.rp (oGExpr y1))) :: a4.env, [(5, bGExpr y1)]⟩
   refine st 3 a5 (nx (oi ?_))
   let a6 : St := a5.p [(13, (vGExpr y1)), (12, (vI x3))]
   refine st 2 a6 (cs h (OK_iSizeOf y1) fun y2 h => ?_)
   let a7 : St := a6.p [(3, (vI (IntKind.wrap .i64 (x3 + y2)))), (15, (vI (IntKind.wrap .i64 (x3 + y2)))), (14, (vI y2))]
   refine st 2 a7 (ni (bn (xi (oi ?_))))
   let a8 : St := a7.p [(8, (vI (IntKind.wrap .i64 (x8 + 1)))), (16, (vI (IntKind.wrap .i64 (x8 + 1))))]
   exact st 2 a8 (ni (loop_back (s' := stiSizeOfAll_L0 p0 (IntKind.wrap .i64 (x3 + y2)) (IntKind.wrap .i64 (x8 + 1))) (wr [] (es (es (es (es er_nil)))) br_nil) (OK_iSizeOfAll_L0 p0 (IntKind.wrap .i64 (x3 + y2)) (IntKind.wrap .i64 (x8 + 1)) _ h)))
   refine ei (te (te (bh (xi (so ?_)))))
   let a9 : St := a4.p [(2, (vI x3)), (17, (vI x3))]
   refine st 2 a9 (nx (ri ?_))
   injection h with h; subst h
   exact r1 (v := (vI x3))
 · intro F_iSizeOfAll F_iSizeOf_L0 OK_iSizeOfAll OK_iSizeOf_L0 p0 r h
   refine aof triSizeOf ?_
   show avc Tryz.prog aciSizeOf (qiSizeOf _) ⟨[(0, (vGExpr p0))], []⟩
   delta aciSizeOf
   refine so ?_
   let a0 : St := ⟨[(2, (vI 0)), (1, (.ptr 1 0)), (0, (vGExpr p0))], [(1, bGExpr p0)]⟩
   refine st 2 a0 (nx (so ?_))
   let a1 : St := a0.p [(7, (.d (.sl 10 (p0.kids.map cGExpr)))), (6, (.ptr 1 8))]
   refine st 2 a1 (cs h (OK_iSizeOfAll p0.kids) fun y1 h => ?_)
   let a2 : St := a1.p [(3, (vI (IntKind.wrap .i64 (1 + y1)))), (9, (vI (IntKind.wrap .i64 (1 + y1)))), (8, (vI y1))]
   refine st 2 a2 (nx (si (so ?_)))
   let a3 : St := a2.p [(11, (.d (.sl 6 (p0.sub.map cGQuery)))), (10, (.ptr 1 9))]
   refine st 2 a3 (ps (vI (ln p0.sub)) (vln (sz := 6) (l := p0.sub) (f := cGQuery)) ?_)
   let a4 : St := a3.p [(13, (vI 0)), (12, (vI (ln p0.sub)))]
   exact st 1 a4 (nx (bi (loop_go (s' := stiSizeOf_L0 p0 (IntKind.wrap .i64 (1 + y1)) 0) (wr [] (es (es (es (es er_nil)))) br_nil) (OK_iSizeOf_L0 p0 (IntKind.wrap .i64 (1 + y1)) 0 _ h))))
 · intro F_iQuerySize F_iSizeOf_L0 OK_iQuerySize OK_iSizeOf_L0 p0 x3 x13 r h
   delta aciSizeOf_L0
   refine loop_unroll (so ?_)
   let a5 : St := (stiSizeOf_L0 p0 x3 x13).p [(14, (vB (decide (x13 < (ln p0.sub)))))]
   refine st 1 a5 (nx (si ?_))
   refine cd h (fun h => ?_) fun h => ?_
   refine ki (xi (si (bi (so (vs (fun (y : GQuery) => (.rp (oGQuery y))) h (fun y hy => via (l := p0.sub) (f := cGQuery) (g := oGQuery) (k := .i64) hy cGQuery_eq) fun y2 h => ?_)))))
   let a6 : St := ⟨(5, (.ptr 5 0)) :: (16, (vGQuery y2)) :: (15, (.rp (oGQuery y2))) :: a5.env, [(5, bGQuery y2)]⟩
   refine st 3 a6 (nx (oi ?_))
   let a7 : St := a6.p [(18, (vGQuery y2)), (17, (vI x3))]
   refine st 2 a7 (cs h (OK_iQuerySize y2) fun y3 h => ?_)
   let a8 : St := a7.p [(3, (vI (IntKind.wrap .i64 (x3 + y3)))), (20, (vI (IntKind.wrap .i64 (x3 + y3)))), (19, (vI y3))]
   refine st 2 a8 (ni (bn (xi (oi ?_))))
   let a9 : St := a8.p [(13, (vI (IntKind.wrap .i64 (x13 + 1)))), (21, (vI (IntKind.wrap .i64 (x13 + 1))))]
   exact st 2 a9 (ni (loop_back (s' := stiSizeOf_L0 p0 (IntKind.wrap .i64 (x3 + y3)) (IntKind.wrap .i64 (x13 + 1))) (wr [] (es (es (es (es er_nil)))) br_nil) (OK_iSizeOf_L0 p0 (IntKind.wrap .i64 (x3 + y3)) (IntKind.wrap .i64 (x13 + 1)) _ h)))
   refine ei (te (te (bh (xi (so ?_)))))
   let a10 : St := a5.p [(2, (vI x3)), (22, (vI x3))]
   refine st 2 a10 (nx (ri ?_))
   injection h with h; subst h
   exact r1 (v := (vI x3))
theorem OK_iQuerySize (p0 : GQuery) : FOk Tryz.prog 109 [(vGQuery p0)] (fun y => (vI y)) (iQuerySize p0) := fun r h => (OKs_iQuerySize).1 p0 r h
theorem OK_iSizeOfAll (p0 : (List GExpr)) : FOk Tryz.prog 54 [(.d (.sl 10 (p0.map cGExpr)))] (fun y => (vI y)) (iSizeOfAll p0) := fun r h => (OKs_iQuerySize).2.1 p0 r h
theorem OK_iSizeOfAll_L0 (p0 : (List GExpr)) (x3 : Int) (x8 : Int) (r : Int) (h : iSizeOfAll_L0 p0 x3 x8 = some r) : avc Tryz.prog aciSizeOfAll_L0 (qiSizeOfAll_1 r) (stiSizeOfAll_L0 p0 x3 x8) := (OKs_iQuerySize).2.2.1 p0 x3 x8 r h
theorem OK_iSizeOf (p0 : GExpr) : FOk Tryz.prog 93 [(vGExpr p0)] (fun y => (vI y)) (iSizeOf p0) := fun r h => (OKs_iQuerySize).2.2.2.1 p0 r h
theorem OK_iSizeOf_L0 (p0 : GExpr) (x3 : Int) (x13 : Int) (r : Int) (h : iSizeOf_L0 p0 x3 x13 = some r) : avc Tryz.prog aciSizeOf_L0 (qiSizeOf_1 r) (stiSizeOf_L0 p0 x3 x13) := (OKs_iQuerySize).2.2.2.2 p0 x3 x13 r h
theorem OK_iStmtSize (p0 : GStmt) : FOk Tryz.prog 22 [(vGStmt p0)] (fun y => (vI y)) (iStmtSize p0) := by
 intro r h
 rw [iStmtSize] at h
 refine aof triStmtSize ?_
 show avc Tryz.prog aciStmtSize (qiStmtSize _) ⟨[(0, (vGStmt p0))], []⟩
 delta aciStmtSize
 refine so ?_
 let a0 : St := ⟨[(2, (vI 0)), (1, (.ptr 1 0)), (0, (vGStmt p0))], [(1, bGStmt p0)]⟩
 refine st 2 a0 (nx (so ?_))
 let a1 : St := a0.p [(3, (vGStmt p0))]
 refine st 1 a1 (callg_step ⟨[], [], [], [], [], [(2000000, 4)], [], [4]⟩ (m := iStmt_exprs p0) (S' := fun (y : (List GExpr)) => ⟨(4, (.osl 4 82 10 (y.map cGExpr))) :: a1.env, a1.bx⟩) h (OK_iStmt_exprs p0) (by kernel_rfl) (by kernel_rfl) (by kernel_rfl) (by kernel_rfl) (fun y => by kernel_rfl) (fun y => by kernel_rfl) ?_)
 clear h; intro y1 h
 refine cs h (OK_iSizeOfAll y1) fun y2 h => ?_
 let a2 : St := a1.p [(2, (vI y2)), (5, (vI y2)), (4, (.osl 4 82 10 (y1.map cGExpr)))]
 refine st 1 a2 (nx (ri ?_))
 injection h with h; subst h
 exact r1 (v := (vI y2))
theorem OK_iStmtOk (p0 : GStmt) : FOk Tryz.prog 7 [(vGStmt p0)] (fun y => (vB y)) (iStmtOk p0) := by
 intro r h
 rw [iStmtOk] at h
 refine aof triStmtOk ?_
 show avc Tryz.prog aciStmtOk (qiStmtOk _) ⟨[(0, (vGStmt p0))], []⟩
 delta aciStmtOk
 refine so ?_
 let a0 : St := ⟨[(2, (vB false)), (1, (.ptr 1 0)), (0, (vGStmt p0))], [(1, bGStmt p0)]⟩
 refine st 2 a0 (nx (si (si (dops_in ?_))))
 let a1 : St := a0.p [(3, (vGStmt p0))]
 refine dsts_ok 1 (s' := a1) (by kernel_rfl) (dcall_step (m := iStmtDepth p0) (args := [(vGStmt p0)]) (v' := (fun y => (vI y))) h (OK_iStmtDepth p0) (by kernel_rfl) (by kernel_rfl) (fun _ => rfl) ?_)
 clear h; intro y1 h
 let a2 : St := a1.p [(5, (vGStmt p0)), (4, (vI y1))]
 refine dsts_ok 1 (s' := a2) (by kernel_rfl) (dcall_step (m := iStmtSize p0) (args := [(vGStmt p0)]) (v' := (fun y => (vI y))) h (OK_iStmtSize p0) (by kernel_rfl) (by kernel_rfl) (fun _ => rfl) ?_)
 clear h; intro y2 h
 refine dcall_step (m := iIsSmall y1 y2) (args := [(vI y1), (vI y2)]) (v' := (fun y => (vB y))) h (OK_iIsSmall y1 y2) (by kernel_rfl) (by kernel_rfl) (fun _ => rfl) ?_
 clear h; intro y3 h
 let a3 : St := a2.p [(8, (vB (!y3))), (7, (vB y3)), (6, (vI y2))]
 refine dsts_ok 1 (s' := a3) (by kernel_rfl) (dnil_in (by kernel_rfl) (by kernel_rfl) (xi ?_))
 refine cd h (fun h => ?_) fun h => ?_
 refine so ?_
 let a4 : St := a3.p [(2, (vB false))]
 refine st 1 a4 (nx (ri (tr ?_)))
 injection h with h; subst h
 exact r1 (v := (vB false))
 refine ki (xi (si (so ?_)))
 let a5 : St := a3.p [(11, (vB (decide (p0.kind = 1)))), (10, (vI p0.kind)), (9, (.ptr 1 0))]
 refine st 3 a5 (nx ?_)
 refine cd h (fun h => ?_) fun h => ?_
 refine so ?_
 let a6 : St := a5.p [(15, (vB (decide (p0.table = [])))), (14, (vB (decide (p0.table = [])))), (13, (vS p0.table)), (12, (.ptr 1 7))]
 refine st 4 a6 (gp true (decide (p0.table = [])) (.ptr 1 8) (fun hc => vl) (gp true (decide (p0.table = [])) (.d (.sl 1 (p0.rows.map (cSl 10 cGExpr)))) (fun hc => vop_val1 (Eq.trans (b := ([(true && ((decide (p0.table = [])) == true))] : List Bool).all id) (by kernel_rfl) (all_c hc rfl)) (by kernel_rfl)) ?_))
 refine gp true (decide (p0.table = [])) (vI (ln p0.rows)) (fun hc => vop_len (sz := 1) (l := p0.rows) (f := (cSl 10 cGExpr)) (Eq.trans (b := ([(true && ((decide (p0.table = [])) == true))] : List Bool).all id) (by kernel_rfl) (all_c hc rfl)) (by kernel_rfl)) ?_
 refine gp true (decide (p0.table = [])) (vB (decide ((ln p0.rows) = 0))) (fun hc => vop_val1 (Eq.trans (b := ([(true && ((decide (p0.table = [])) == true))] : List Bool).all id) (by kernel_rfl) (all_c hc rfl)) (by kernel_rfl)) ?_
 refine vs (fun (y : Bool) => (vB y)) h (fun y hy => vop_pickV hy (p := (true && ((decide (p0.table = [])) == true))) (q := true) (by kernel_rfl) (by kernel_rfl) (by kernel_rfl) (by kernel_rfl) (fun hb => gc_t rfl hb) (fun _ => rfl)) fun y4 h => ?_
 let a7 : St := a6.p [(21, (vB y4)), (20, (vB y4)), (19, (.ite (true && ((decide (p0.table = [])) == true)) (vB (decide ((ln p0.rows) = 0))))), (18, (.ite (true && ((decide (p0.table = [])) == true)) (vI (ln p0.rows)))), (17, (.ite (true && ((decide (p0.table = [])) == true)) (.d (.sl 1 (p0.rows.map (cSl 10 cGExpr)))))), (16, (.ite (true && ((decide (p0.table = [])) == true)) (.ptr 1 8)))]
 refine st 1 a7 (gp true y4 (.ptr 1 9) (fun hc => vl) (gp true y4 (.d (.sl 1 (p0.cols.map cStr))) (fun hc => vg hc) (gp true y4 (vI (ln p0.cols)) (fun hc => vop_len (sz := 1) (l := p0.cols) (f := cStr) (Eq.trans (b := ([(true && (y4 == true))] : List Bool).all id) (by kernel_rfl) (all_c hc rfl)) (by kernel_rfl)) (gp true y4 (vB (decide ((ln p0.cols) = 0))) (fun hc => vg hc) ?_))))
 refine vs (fun (y : Bool) => (vB y)) h (fun y hy => vop_pickV hy (p := (true && (y4 == true))) (q := true) (by kernel_rfl) (by kernel_rfl) (by kernel_rfl) (by kernel_rfl) (fun hb => gc_t rfl hb) (fun _ => rfl)) fun y5 h => ?_
 let a8 : St := a7.p [(27, (vB y5)), (26, (vB y5)), (25, (.ite (gT y4) (vB (decide ((ln p0.cols) = 0))))), (24, (.ite (gT y4) (vI (ln p0.cols)))), (23, (.ite (gT y4) (.d (.sl 1 (p0.cols.map cStr))))), (22, (.ite (gT y4) (.ptr 1 9)))]
 refine st 1 a8 (gp true y5 (.ptr 1 10) (fun hc => vl) (gp true y5 (.d (.sl 10 (p0.sets.map cGExpr))) (fun hc => vg hc) (gp true y5 (vI (ln p0.sets)) (fun hc => vop_len (sz := 10) (l := p0.sets) (f := cGExpr) (Eq.trans (b := ([(true && (y5 == true))] : List Bool).all id) (by kernel_rfl) (all_c hc rfl)) (by kernel_rfl)) (gp true y5 (vB (decide ((ln p0.sets) = 0))) (fun hc => vg hc) ?_))))
 refine vs (fun (y : Bool) => (vB y)) h (fun y hy => vop_pickV hy (p := (true && (y5 == true))) (q := true) (by kernel_rfl) (by kernel_rfl) (by kernel_rfl) (by kernel_rfl) (fun hb => gc_t rfl hb) (fun _ => rfl)) fun y6 h => ?_
 let a9 : St := a8.p [(33, (vB y6)), (32, (vB y6)), (31, (.ite (gT y5) (vB (decide ((ln p0.sets) = 0))))), (30, (.ite (gT y5) (vI (ln p0.sets)))), (29, (.ite (gT y5) (.d (.sl 10 (p0.sets.map cGExpr))))), (28, (.ite (gT y5) (.ptr 1 10)))]
 refine st 1 a9 (gp true y6 (.ptr 1 11) (fun hc => vl) (gp true y6 (.d (.sl 10 (p0.where_.map cGExpr))) (fun hc => vg hc) (gp true y6 (vI (ln p0.where_)) (fun hc => vop_len (sz := 10) (l := p0.where_) (f := cGExpr) (Eq.trans (b := ([(true && (y6 == true))] : List Bool).all id) (by kernel_rfl) (all_c hc rfl)) (by kernel_rfl)) (gp true y6 (vB (decide ((ln p0.where_) = 0))) (fun hc => vg hc) ?_))))
 refine vs (fun (y : Bool) => (vB y)) h (fun y hy => vop_pickV hy (p := (true && (y6 == true))) (q := true) (by kernel_rfl) (by kernel_rfl) (by kernel_rfl) (by kernel_rfl) (fun hb => gc_t rfl hb) (fun _ => rfl)) fun y7 h => ?_
 let a10 : St := a9.p [(39, (vB y7)), (38, (vB y7)), (37, (.ite (gT y6) (vB (decide ((ln p0.where_) = 0))))), (36, (.ite (gT y6) (vI (ln p0.where_)))), (35, (.ite (gT y6) (.d (.sl 10 (p0.where_.map cGExpr))))), (34, (.ite (gT y6) (.ptr 1 11)))]
 refine st 1 a10 (gp true y7 (.ptr 1 1) (fun hc => vl) (gp true y7 (vGQuery p0.query) (fun hc => vg hc) ?_))
 refine gcall_step (p := true) (b := y7) (m := iIsFormedQuery p0.query) (dflt := default) (args := [(vGQuery p0.query)]) (v' := (fun y => (vB y))) h (by kernel_rfl) (OK_iIsFormedQuery p0.query) (fun hc => by kernel_rfl) (by kernel_rfl) (fun _ => rfl) (fun hc => (Eq.trans (b := ([(true && (y7 == true))] : List Bool).all id) (by kernel_rfl) (all_c hc rfl))) ?_
 clear h; intro y8 h
 refine vs (fun (y : Bool) => (vB y)) h (fun y hy => vop_pickV hy (p := (true && (y7 == true))) (q := true) (by kernel_rfl) (by kernel_rfl) (by kernel_rfl) (by kernel_rfl) (fun hb => gc_t rfl hb) (fun _ => rfl)) fun y9 h => ?_
 let a11 : St := a10.p [(2, (vB y9)), (43, (vB y9)), (42, (.ite (gT y7) (vB y8))), (41, (.ite (gT y7) (vGQuery p0.query))), (40, (.ite (gT y7) (.ptr 1 1)))]
 refine st 1 a11 (nx (ri (tr ?_)))
 injection h with h; subst h
 exact r1 (v := (vB y9))
 refine ki (xi (si (so ?_)))
 let a12 : St := a5.p [(46, (vGQuery (GQuery.mk false ([] : List GItem) ([] : List GSource) ([] : List GExpr) ([] : List GSortKey) 0))), (45, (vGQuery p0.query)), (44, (.ptr 1 1))]
 refine st 3 a12 (cs h (OK_iSameQuery p0.query (GQuery.mk false ([] : List GItem) ([] : List GSource) ([] : List GExpr) ([] : List GSortKey) 0)) fun y10 h => ?_)
 let a13 : St := a12.p [(49, (vB (!y10))), (48, (vB (!y10))), (47, (vB y10))]
 refine st 2 a13 (gp true (!y10) (.ptr 1 7) (fun hc => vl) (gp true (!y10) (vS p0.table) (fun hc => vg hc) ?_))
 refine gcall_step (p := true) (b := (!y10)) (m := iNameOk p0.table) (dflt := default) (args := [(vS p0.table)]) (v' := (fun y => (vB y))) h (by kernel_rfl) (OK_iNameOk p0.table) (fun hc => by kernel_rfl) (by kernel_rfl) (fun _ => rfl) (fun hc => (Eq.trans (b := ([(true && ((!y10) == false))] : List Bool).all id) (by kernel_rfl) (all_c hc rfl))) ?_
 clear h; intro y11 h
 refine gp true (!y10) (vB (!y11)) (fun hc => vg hc) (vs (fun (y : Bool) => (vB y)) h (fun y hy => vop_pickV hy (p := true) (q := (true && ((!y10) == false))) (by kernel_rfl) (by kernel_rfl) (by kernel_rfl) (by kernel_rfl) (fun _ => rfl) (fun hb => gc_f rfl hb)) fun y12 h => ?_)
 let a14 : St := a13.p [(55, (vB y12)), (54, (vB y12)), (53, (.ite (true && ((!y10) == false)) (vB (!y11)))), (52, (.ite (true && ((!y10) == false)) (vB y11))), (51, (.ite (true && ((!y10) == false)) (vS p0.table))), (50, (.ite (true && ((!y10) == false)) (.ptr 1 7)))]
 refine st 1 a14 (gp true y12 (vGStmt p0) (fun hc => vl) ?_)
 refine gcallg_step ⟨[], [], [], [], [], [], [], []⟩ (p := true) (b := y12) (m := iStmt_exprs p0) (dflt := (default : (List GExpr))) (S' := fun (y : (List GExpr)) => ⟨(57, (.ite (gF y12) (.d (.sl 10 (y.map cGExpr))))) :: (56, (.ite (gF y12) (vGStmt p0))) :: a14.env, a14.bx⟩) h (by kernel_rfl) (OK_iStmt_exprs p0) (fun hc => by kernel_rfl) (by kernel_rfl) (by kernel_rfl) (by kernel_rfl) (fun y => by kernel_rfl) (by kernel_rfl) (fun hc => (Eq.trans (b := ([(true && (y12 == false))] : List Bool).all id) (by kernel_rfl) (all_c hc rfl))) (fun y => by kernel_rfl) ?_
 clear h; intro y13 h
 refine gcall_step (p := true) (b := y12) (m := iAreFormed y13) (dflt := default) (args := [(.d (.sl 10 (y13.map cGExpr)))]) (v' := (fun y => (vB y))) h (by kernel_rfl) (OK_iAreFormed y13) (fun hc => by kernel_rfl) (by kernel_rfl) (fun _ => rfl) (fun hc => (Eq.trans (b := ([(true && (y12 == false))] : List Bool).all id) (by kernel_rfl) (all_c hc rfl))) ?_
 clear h; intro y14 h
 refine gp true y12 (vB (!y14)) (fun hc => vg hc) (vs (fun (y : Bool) => (vB y)) h (fun y hy => vop_pickV hy (p := true) (q := (true && (y12 == false))) (by kernel_rfl) (by kernel_rfl) (by kernel_rfl) (by kernel_rfl) (fun _ => rfl) (fun hb => gc_f rfl hb)) fun y15 h => (nx ?_))
 refine cd h (fun h => ?_) fun h => ?_
 refine so ?_
 let a15 : St := a14.p [(2, (vB false)), (60, (vB y15)), (59, (.ite (gF y12) (vB (!y14)))), (58, (.ite (gF y12) (vB y14))), (57, (.ite (gF y12) (.d (.sl 10 (y13.map cGExpr))))), (56, (.ite (gF y12) (vGStmt p0)))]
 refine st 1 a15 (nx (ri (tr ?_)))
 injection h with h; subst h
 exact r1 (v := (vB false))
 refine ki (xi (si (so ?_)))
 let a16 : St := a14.p [(62, (vI p0.kind)), (61, (.ptr 1 0)), (60, (vB y15)), (59, (.ite (gF y12) (vB (!y14)))), (58, (.ite (gF y12) (vB y14))), (57, (.ite (gF y12) (.d (.sl 10 (y13.map cGExpr))))), (56, (.ite (gF y12) (vGStmt p0)))]
 refine st 2 a16 (nx (bi (so ?_)))
 let a17 : St := a16.p [(63, (vB (decide (p0.kind = 2)))), (64, (vB (decide (p0.kind = 2))))]
 refine st 2 a17 (nx ?_)
 refine cd h (fun h => ?_) fun h => ?_
 refine so ?_
 let a18 : St := a17.p [(66, (.d (.sl 1 (p0.cols.map cStr)))), (65, (.ptr 1 9))]
 refine st 2 a18 (ps (vI (ln p0.cols)) (vln (sz := 1) (l := p0.cols) (f := cStr)) ?_)
 let a19 : St := a18.p [(69, (vB (decide ((ln p0.cols) = 0)))), (68, (vB (decide ((ln p0.cols) = 0)))), (67, (vI (ln p0.cols)))]
 refine st 2 a19 (gp true (decide ((ln p0.cols) = 0)) (.ptr 1 10) (fun hc => vl) (gp true (decide ((ln p0.cols) = 0)) (.d (.sl 10 (p0.sets.map cGExpr))) (fun hc => vg hc) ?_))
 refine gp true (decide ((ln p0.cols) = 0)) (vI (ln p0.sets)) (fun hc => vop_len (sz := 10) (l := p0.sets) (f := cGExpr) (Eq.trans (b := ([(true && ((decide ((ln p0.cols) = 0)) == true))] : List Bool).all id) (by kernel_rfl) (all_c hc rfl)) (by kernel_rfl)) (gp true (decide ((ln p0.cols) = 0)) (vB (decide ((ln p0.sets) = 0))) (fun hc => vg hc) ?_)
 refine vs (fun (y : Bool) => (vB y)) h (fun y hy => vop_pickV hy (p := (true && ((decide ((ln p0.cols) = 0)) == true))) (q := true) (by kernel_rfl) (by kernel_rfl) (by kernel_rfl) (by kernel_rfl) (fun hb => gc_t rfl hb) (fun _ => rfl)) fun y16 h => ?_
 let a20 : St := a19.p [(75, (vB y16)), (74, (vB y16)), (73, (.ite (true && ((decide ((ln p0.cols) = 0)) == true)) (vB (decide ((ln p0.sets) = 0))))), (72, (.ite (true && ((decide ((ln p0.cols) = 0)) == true)) (vI (ln p0.sets)))), (71, (.ite (true && ((decide ((ln p0.cols) = 0)) == true)) (.d (.sl 10 (p0.sets.map cGExpr))))), (70, (.ite (true && ((decide ((ln p0.cols) = 0)) == true)) (.ptr 1 10)))]
 refine st 1 a20 (gp true y16 (.ptr 1 11) (fun hc => vl) (gp true y16 (.d (.sl 10 (p0.where_.map cGExpr))) (fun hc => vg hc) (gp true y16 (vI (ln p0.where_)) (fun hc => vop_len (sz := 10) (l := p0.where_) (f := cGExpr) (Eq.trans (b := ([(true && (y16 == true))] : List Bool).all id) (by kernel_rfl) (all_c hc rfl)) (by kernel_rfl)) ?_)))
 refine gp true y16 (vB (decide ((ln p0.where_) = 0))) (fun hc => vg hc) (vs (fun (y : Bool) => (vB y)) h (fun y hy => vop_pickV hy (p := (true && (y16 == true))) (q := true) (by kernel_rfl) (by kernel_rfl) (by kernel_rfl) (by kernel_rfl) (fun hb => gc_t rfl hb) (fun _ => rfl)) fun y17 h => ?_)
 let a21 : St := a20.p [(81, (vB y17)), (80, (vB y17)), (79, (.ite (gT y16) (vB (decide ((ln p0.where_) = 0))))), (78, (.ite (gT y16) (vI (ln p0.where_)))), (77, (.ite (gT y16) (.d (.sl 10 (p0.where_.map cGExpr))))), (76, (.ite (gT y16) (.ptr 1 11)))]
 refine st 1 a21 (gp true y17 (.ptr 1 8) (fun hc => vl) (gp true y17 (.d (.sl 1 (p0.rows.map (cSl 10 cGExpr)))) (fun hc => vg hc) (gp true y17 (vI (ln p0.rows)) (fun hc => vop_len (sz := 1) (l := p0.rows) (f := (cSl 10 cGExpr)) (Eq.trans (b := ([(true && (y17 == true))] : List Bool).all id) (by kernel_rfl) (all_c hc rfl)) (by kernel_rfl)) ?_)))
 refine gp true y17 (vB (decide (1 ≤ (ln p0.rows)))) (fun hc => vg hc) (vs (fun (y : Bool) => (vB y)) h (fun y hy => vop_pickV hy (p := (true && (y17 == true))) (q := true) (by kernel_rfl) (by kernel_rfl) (by kernel_rfl) (by kernel_rfl) (fun hb => gc_t rfl hb) (fun _ => rfl)) fun y18 h => ?_)
 let a22 : St := a21.p [(87, (vB y18)), (86, (vB y18)), (85, (.ite (gT y17) (vB (decide (1 ≤ (ln p0.rows)))))), (84, (.ite (gT y17) (vI (ln p0.rows)))), (83, (.ite (gT y17) (.d (.sl 1 (p0.rows.map (cSl 10 cGExpr)))))), (82, (.ite (gT y17) (.ptr 1 8)))]
 refine st 1 a22 (gp true y18 (.ptr 1 8) (fun hc => vl) (gp true y18 (.d (.sl 1 (p0.rows.map (cSl 10 cGExpr)))) (fun hc => vg hc) (gp true y18 (vI (ln p0.rows)) (fun hc => vop_len (sz := 1) (l := p0.rows) (f := (cSl 10 cGExpr)) (Eq.trans (b := ([(true && (y18 == true))] : List Bool).all id) (by kernel_rfl) (all_c hc rfl)) (by kernel_rfl)) ?_)))
 refine gp true y18 (vB (decide ((ln p0.rows) ≤ 5))) (fun hc => vg hc) (vs (fun (y : Bool) => (vB y)) h (fun y hy => vop_pickV hy (p := (true && (y18 == true))) (q := true) (by kernel_rfl) (by kernel_rfl) (by kernel_rfl) (by kernel_rfl) (fun hb => gc_t rfl hb) (fun _ => rfl)) fun y19 h => ?_)
 let a23 : St := a22.p [(93, (vB y19)), (92, (vB y19)), (91, (.ite (gT y18) (vB (decide ((ln p0.rows) ≤ 5))))), (90, (.ite (gT y18) (vI (ln p0.rows)))), (89, (.ite (gT y18) (.d (.sl 1 (p0.rows.map (cSl 10 cGExpr)))))), (88, (.ite (gT y18) (.ptr 1 8)))]
 refine st 1 a23 (gp true y19 (.ptr 1 8) (fun hc => vl) (gp true y19 (.d (.sl 1 (p0.rows.map (cSl 10 cGExpr)))) (fun hc => vg hc) ?_))
 refine gcall_step (p := true) (b := y19) (m := gZ7 p0.rows) (dflt := default) (args := [(.d (.sl 1 (p0.rows.map (cSl 10 cGExpr)))), (.fn 29 [])]) (v' := (fun y => (vB y))) h (by kernel_rfl) (OK_gZ7 p0.rows) (fun hc => by kernel_rfl) (by kernel_rfl) (fun _ => rfl) (fun hc => (Eq.trans (b := ([(true && (y19 == true))] : List Bool).all id) (by kernel_rfl) (all_c hc rfl))) ?_
 clear h; intro y20 h
 refine gp true y19 (vB (!y20)) (fun hc => vg hc) (vs (fun (y : Bool) => (vB y)) h (fun y hy => vop_pickV hy (p := (true && (y19 == true))) (q := true) (by kernel_rfl) (by kernel_rfl) (by kernel_rfl) (by kernel_rfl) (fun hb => gc_t rfl hb) (fun _ => rfl)) fun y21 h => ?_)
 let a24 : St := a23.p [(2, (vB y21)), (98, (vB y21)), (97, (.ite (gT y19) (vB (!y20)))), (96, (.ite (gT y19) (vB y20))), (95, (.ite (gT y19) (.d (.sl 1 (p0.rows.map (cSl 10 cGExpr)))))), (94, (.ite (gT y19) (.ptr 1 8)))]
 refine st 1 a24 (nx (ri (br (tr ?_))))
 injection h with h; subst h
 exact r1 (v := (vB y21))
 refine so ?_
 let a25 : St := a17.p [(99, (vB (decide (p0.kind = 3)))), (100, (vB (decide (p0.kind = 3))))]
 refine st 2 a25 (nx ?_)
 refine cd h (fun h => ?_) fun h => ?_
 refine so ?_
 let a26 : St := a25.p [(102, (.d (.sl 1 (p0.rows.map (cSl 10 cGExpr))))), (101, (.ptr 1 8))]
 refine st 2 a26 (ps (vI (ln p0.rows)) (vln (sz := 1) (l := p0.rows) (f := (cSl 10 cGExpr))) ?_)
 let a27 : St := a26.p [(105, (vB (decide ((ln p0.rows) = 0)))), (104, (vB (decide ((ln p0.rows) = 0)))), (103, (vI (ln p0.rows)))]
 refine st 2 a27 (gp true (decide ((ln p0.rows) = 0)) (.ptr 1 9) (fun hc => vl) (gp true (decide ((ln p0.rows) = 0)) (.d (.sl 1 (p0.cols.map cStr))) (fun hc => vg hc) ?_))
 refine gp true (decide ((ln p0.rows) = 0)) (vI (ln p0.cols)) (fun hc => vop_len (sz := 1) (l := p0.cols) (f := cStr) (Eq.trans (b := ([(true && ((decide ((ln p0.rows) = 0)) == true))] : List Bool).all id) (by kernel_rfl) (all_c hc rfl)) (by kernel_rfl)) (gp true (decide ((ln p0.rows) = 0)) (vB (decide (1 ≤ (ln p0.cols)))) (fun hc => vg hc) ?_)
 refine vs (fun (y : Bool) => (vB y)) h (fun y hy => vop_pickV hy (p := (true && ((decide ((ln p0.rows) = 0)) == true))) (q := true) (by kernel_rfl) (by kernel_rfl) (by kernel_rfl) (by kernel_rfl) (fun hb => gc_t rfl hb) (fun _ => rfl)) fun y22 h => ?_
 let a28 : St := a27.p [(111, (vB y22)), (110, (vB y22)), (109, (.ite (true && ((decide ((ln p0.rows) = 0)) == true)) (vB (decide (1 ≤ (ln p0.cols)))))), (108, (.ite (true && ((decide ((ln p0.rows) = 0)) == true)) (vI (ln p0.cols)))), (107, (.ite (true && ((decide ((ln p0.rows) = 0)) == true)) (.d (.sl 1 (p0.cols.map cStr))))), (106, (.ite (true && ((decide ((ln p0.rows) = 0)) == true)) (.ptr 1 9)))]
 refine st 1 a28 (gp true y22 (.ptr 1 9) (fun hc => vl) (gp true y22 (.d (.sl 1 (p0.cols.map cStr))) (fun hc => vg hc) (gp true y22 (vI (ln p0.cols)) (fun hc => vop_len (sz := 1) (l := p0.cols) (f := cStr) (Eq.trans (b := ([(true && (y22 == true))] : List Bool).all id) (by kernel_rfl) (all_c hc rfl)) (by kernel_rfl)) (gp true y22 (vB (decide ((ln p0.cols) ≤ 12))) (fun hc => vg hc) ?_))))
 refine vs (fun (y : Bool) => (vB y)) h (fun y hy => vop_pickV hy (p := (true && (y22 == true))) (q := true) (by kernel_rfl) (by kernel_rfl) (by kernel_rfl) (by kernel_rfl) (fun hb => gc_t rfl hb) (fun _ => rfl)) fun y23 h => ?_
 let a29 : St := a28.p [(117, (vB y23)), (116, (vB y23)), (115, (.ite (gT y22) (vB (decide ((ln p0.cols) ≤ 12))))), (114, (.ite (gT y22) (vI (ln p0.cols)))), (113, (.ite (gT y22) (.d (.sl 1 (p0.cols.map cStr))))), (112, (.ite (gT y22) (.ptr 1 9)))]
 refine st 1 a29 (gp true y23 (.ptr 1 10) (fun hc => vl) (gp true y23 (.d (.sl 10 (p0.sets.map cGExpr))) (fun hc => vg hc) (gp true y23 (vI (ln p0.sets)) (fun hc => vop_len (sz := 10) (l := p0.sets) (f := cGExpr) (Eq.trans (b := ([(true && (y23 == true))] : List Bool).all id) (by kernel_rfl) (all_c hc rfl)) (by kernel_rfl)) (gp true y23 (.ptr 1 9) (fun hc => vl) ?_))))
 refine gp true y23 (.d (.sl 1 (p0.cols.map cStr))) (fun hc => vg hc) (gp true y23 (vI (ln p0.cols)) (fun hc => vop_len (sz := 1) (l := p0.cols) (f := cStr) (Eq.trans (b := ([(true && (y23 == true))] : List Bool).all id) (by kernel_rfl) (all_c hc rfl)) (by kernel_rfl)) ?_)
 refine gp true y23 (vB (decide ((ln p0.sets) = (ln p0.cols)))) (fun hc => vop_val1 (Eq.trans (b := ([(true && (y23 == true)), (true && (y23 == true))] : List Bool).all id) (by kernel_rfl) (all_c hc (all_c hc rfl))) (by kernel_rfl)) ?_
 refine vs (fun (y : Bool) => (vB y)) h (fun y hy => vop_pickV hy (p := (true && (y23 == true))) (q := true) (by kernel_rfl) (by kernel_rfl) (by kernel_rfl) (by kernel_rfl) (fun hb => gc_t rfl hb) (fun _ => rfl)) fun y24 h => ?_
 let a30 : St := a29.p [(126, (vB y24)), (125, (vB y24)), (124, (.ite (gT y23) (vB (decide ((ln p0.sets) = (ln p0.cols)))))), (123, (.ite (gT y23) (vI (ln p0.cols)))), (122, (.ite (gT y23) (.d (.sl 1 (p0.cols.map cStr))))), (121, (.ite (gT y23) (.ptr 1 9))), (120, (.ite (gT y23) (vI (ln p0.sets)))), (119, (.ite (gT y23) (.d (.sl 10 (p0.sets.map cGExpr))))), (118, (.ite (gT y23) (.ptr 1 10)))]
 refine st 1 a30 (gp true y24 (.ptr 1 11) (fun hc => vl) (gp true y24 (.d (.sl 10 (p0.where_.map cGExpr))) (fun hc => vg hc) (gp true y24 (vI (ln p0.where_)) (fun hc => vop_len (sz := 10) (l := p0.where_) (f := cGExpr) (Eq.trans (b := ([(true && (y24 == true))] : List Bool).all id) (by kernel_rfl) (all_c hc rfl)) (by kernel_rfl)) ?_)))
 refine gp true y24 (vB (decide ((ln p0.where_) ≤ 1))) (fun hc => vg hc) (vs (fun (y : Bool) => (vB y)) h (fun y hy => vop_pickV hy (p := (true && (y24 == true))) (q := true) (by kernel_rfl) (by kernel_rfl) (by kernel_rfl) (by kernel_rfl) (fun hb => gc_t rfl hb) (fun _ => rfl)) fun y25 h => ?_)
 let a31 : St := a30.p [(132, (vB y25)), (131, (vB y25)), (130, (.ite (gT y24) (vB (decide ((ln p0.where_) ≤ 1))))), (129, (.ite (gT y24) (vI (ln p0.where_)))), (128, (.ite (gT y24) (.d (.sl 10 (p0.where_.map cGExpr))))), (127, (.ite (gT y24) (.ptr 1 11)))]
 refine st 1 a31 (gp true y25 (.ptr 1 9) (fun hc => vl) (gp true y25 (.d (.sl 1 (p0.cols.map cStr))) (fun hc => vg hc) ?_))
 refine gcall_step (p := true) (b := y25) (m := gZ11 p0.cols) (dflt := default) (args := [(.d (.sl 1 (p0.cols.map cStr))), (.fn 31 [])]) (v' := (fun y => (vB y))) h (by kernel_rfl) (OK_gZ11 p0.cols) (fun hc => by kernel_rfl) (by kernel_rfl) (fun _ => rfl) (fun hc => (Eq.trans (b := ([(true && (y25 == true))] : List Bool).all id) (by kernel_rfl) (all_c hc rfl))) ?_
 clear h; intro y26 h
 refine gp true y25 (vB (!y26)) (fun hc => vg hc) (vs (fun (y : Bool) => (vB y)) h (fun y hy => vop_pickV hy (p := (true && (y25 == true))) (q := true) (by kernel_rfl) (by kernel_rfl) (by kernel_rfl) (by kernel_rfl) (fun hb => gc_t rfl hb) (fun _ => rfl)) fun y27 h => ?_)
 let a32 : St := a31.p [(2, (vB y27)), (137, (vB y27)), (136, (.ite (gT y25) (vB (!y26)))), (135, (.ite (gT y25) (vB y26))), (134, (.ite (gT y25) (.d (.sl 1 (p0.cols.map cStr))))), (133, (.ite (gT y25) (.ptr 1 9)))]
 refine st 1 a32 (nx (ri (br (tr ?_))))
 injection h with h; subst h
 exact r1 (v := (vB y27))
 refine so ?_
 let a33 : St := a25.p [(138, (vB (decide (p0.kind = 4)))), (139, (vB (decide (p0.kind = 4))))]
 refine st 2 a33 (nx ?_)
 refine cd h (fun h => ?_) fun h => ?_
 refine so ?_
 let a34 : St := a33.p [(141, (.d (.sl 1 (p0.rows.map (cSl 10 cGExpr))))), (140, (.ptr 1 8))]
 refine st 2 a34 (ps (vI (ln p0.rows)) (vln (sz := 1) (l := p0.rows) (f := (cSl 10 cGExpr))) ?_)
 let a35 : St := a34.p [(144, (vB (decide ((ln p0.rows) = 0)))), (143, (vB (decide ((ln p0.rows) = 0)))), (142, (vI (ln p0.rows)))]
 refine st 2 a35 (gp true (decide ((ln p0.rows) = 0)) (.ptr 1 9) (fun hc => vl) (gp true (decide ((ln p0.rows) = 0)) (.d (.sl 1 (p0.cols.map cStr))) (fun hc => vg hc) ?_))
 refine gp true (decide ((ln p0.rows) = 0)) (vI (ln p0.cols)) (fun hc => vop_len (sz := 1) (l := p0.cols) (f := cStr) (Eq.trans (b := ([(true && ((decide ((ln p0.rows) = 0)) == true))] : List Bool).all id) (by kernel_rfl) (all_c hc rfl)) (by kernel_rfl)) (gp true (decide ((ln p0.rows) = 0)) (vB (decide ((ln p0.cols) = 0))) (fun hc => vg hc) ?_)
 refine vs (fun (y : Bool) => (vB y)) h (fun y hy => vop_pickV hy (p := (true && ((decide ((ln p0.rows) = 0)) == true))) (q := true) (by kernel_rfl) (by kernel_rfl) (by kernel_rfl) (by kernel_rfl) (fun hb => gc_t rfl hb) (fun _ => rfl)) fun y28 h => ?_
 let a36 : St := a35.p [(150, (vB y28)), (149, (vB y28)), (148, (.ite (true && ((decide ((ln p0.rows) = 0)) == true)) (vB (decide ((ln p0.cols) = 0))))), (147, (.ite (true && ((decide ((ln p0.rows) = 0)) == true)) (vI (ln p0.cols)))), (146, (.ite (true && ((decide ((ln p0.rows) = 0)) == true)) (.d (.sl 1 (p0.cols.map cStr))))), (145, (.ite (true && ((decide ((ln p0.rows) = 0)) == true)) (.ptr 1 9)))]
 refine st 1 a36 (gp true y28 (.ptr 1 10) (fun hc => vl) (gp true y28 (.d (.sl 10 (p0.sets.map cGExpr))) (fun hc => vg hc) (gp true y28 (vI (ln p0.sets)) (fun hc => vop_len (sz := 10) (l := p0.sets) (f := cGExpr) (Eq.trans (b := ([(true && (y28 == true))] : List Bool).all id) (by kernel_rfl) (all_c hc rfl)) (by kernel_rfl)) (gp true y28 (vB (decide ((ln p0.sets) = 0))) (fun hc => vg hc) ?_))))
 refine vs (fun (y : Bool) => (vB y)) h (fun y hy => vop_pickV hy (p := (true && (y28 == true))) (q := true) (by kernel_rfl) (by kernel_rfl) (by kernel_rfl) (by kernel_rfl) (fun hb => gc_t rfl hb) (fun _ => rfl)) fun y29 h => ?_
 let a37 : St := a36.p [(156, (vB y29)), (155, (vB y29)), (154, (.ite (gT y28) (vB (decide ((ln p0.sets) = 0))))), (153, (.ite (gT y28) (vI (ln p0.sets)))), (152, (.ite (gT y28) (.d (.sl 10 (p0.sets.map cGExpr))))), (151, (.ite (gT y28) (.ptr 1 10)))]
 refine st 1 a37 (gp true y29 (.ptr 1 11) (fun hc => vl) (gp true y29 (.d (.sl 10 (p0.where_.map cGExpr))) (fun hc => vg hc) (gp true y29 (vI (ln p0.where_)) (fun hc => vop_len (sz := 10) (l := p0.where_) (f := cGExpr) (Eq.trans (b := ([(true && (y29 == true))] : List Bool).all id) (by kernel_rfl) (all_c hc rfl)) (by kernel_rfl)) ?_)))
 refine gp true y29 (vB (decide ((ln p0.where_) ≤ 1))) (fun hc => vg hc) (vs (fun (y : Bool) => (vB y)) h (fun y hy => vop_pickV hy (p := (true && (y29 == true))) (q := true) (by kernel_rfl) (by kernel_rfl) (by kernel_rfl) (by kernel_rfl) (fun hb => gc_t rfl hb) (fun _ => rfl)) fun y30 h => ?_)
 let a38 : St := a37.p [(2, (vB y30)), (161, (vB y30)), (160, (.ite (gT y29) (vB (decide ((ln p0.where_) ≤ 1))))), (159, (.ite (gT y29) (vI (ln p0.where_)))), (158, (.ite (gT y29) (.d (.sl 10 (p0.where_.map cGExpr))))), (157, (.ite (gT y29) (.ptr 1 11)))]
 refine st 1 a38 (nx (ri (br (tr ?_))))
 injection h with h; subst h
 exact r1 (v := (vB y30))
 refine ki (bn (xi (so ?_)))
 let a39 : St := a33.p [(2, (vB false))]
 refine st 1 a39 (nx (ri ?_))
 injection h with h; subst h
 exact r1 (v := (vB false))
theorem OK_sL1Max (p0 : Int) (p1 : Int) : FOk Tryz.prog 46 [(vI p0), (vI p1)] (fun y => (vI y)) (sL1Max p0 p1) := by
 intro r h
 rw [sL1Max] at h
 refine aof trsL1Max ?_
 show avc Tryz.prog acsL1Max (qsL1Max _) ⟨[(0, (vI p0)), (1, (vI p1))], []⟩
 delta acsL1Max
 refine so ?_
 let a0 : St := ⟨[(4, (vI 0)), (0, (vI p0)), (1, (vI p1))], []⟩
 refine st 1 a0 (nx (si (so ?_)))
 let a1 : St := a0.p [(7, (vB (decide (p1 < p0)))), (6, (vI p1)), (5, (vI p0))]
 refine st 3 a1 (nx ?_)
 refine cd h (fun h => ?_) fun h => ?_
 refine so ?_
 let a2 : St := a1.p [(4, (vI p0)), (8, (vI p0))]
 refine st 2 a2 (nx (ri (tr ?_)))
 injection h with h; subst h
 exact r1 (v := (vI p0))
 refine ki (xi (so ?_))
 let a3 : St := a1.p [(4, (vI p1)), (9, (vI p1))]
 refine st 2 a3 (nx (ri ?_))
 injection h with h; subst h
 exact r1 (v := (vI p1))
theorem OKs_sL7Exprs_L3 (p0 : GQuery) : (∀ (x3_9 : (List GExpr)) (x6 : Int) (r : (List GExpr)), sL7Exprs_L3 p0 x3_9 x6 = some r → avc Tryz.prog acsL7Exprs_L3 (qsL7Exprs_6 r) (stsL7Exprs_L3 p0 x3_9 x6)) := by
 refine sL7Exprs_L3.partial_correctness p0 (fun x3_9 x6 r => avc Tryz.prog acsL7Exprs_L3 (qsL7Exprs_6 r) (stsL7Exprs_L3 p0 x3_9 x6)) ?_
 · intro F_sL7Exprs_L3 OK_sL7Exprs_L3 x3_9 x6 r h
   delta acsL7Exprs_L3
   refine loop_unroll (si (so ?_))
   let a21 : St := (stsL7Exprs_L3 p0 x3_9 x6).p [(52, (.d (.sl 11 (p0.order.map cGSortKey)))), (51, (.ptr 1 4)), (50, (vI x6))]
   refine st 3 a21 (ps (vI (ln p0.order)) (vln (sz := 11) (l := p0.order) (f := cGSortKey)) ?_)
   let a22 : St := a21.p [(54, (vB (decide (x6 < (ln p0.order))))), (53, (vI (ln p0.order)))]
   refine st 1 a22 (nx ?_)
   refine cd h (fun h => ?_) fun h => ?_
   refine ki (xi (si (bi (oi ?_))))
   let a23 : St := a22.p [(60, (vI x6)), (59, (.d (.sl 11 (p0.order.map cGSortKey)))), (58, (.ptr 1 4)), (57, (.osl 3 82 10 (x3_9.map cGExpr)))]
   refine st 4 a23 (vs (fun (y : GSortKey) => (.rp (oGSortKey y))) h (fun y hy => via (l := p0.order) (f := cGSortKey) (g := oGSortKey) (k := .i64) hy cGSortKey_eq) fun y10 h => ?_)
   let a24 : St := a23.p [(63, (vGExpr y10.expr)), (62, (.rp [(.i .i64 y10.expr.kind), (.i .i64 y10.expr.op), (.b y10.expr.not_), (.i .i64 y10.expr.value.kind), (.i .i64 y10.expr.value.num), (.s (bs y10.expr.value.text)), (.s (bs y10.expr.qual)), (.s (bs y10.expr.name)), (.sl 10 (y10.expr.kids.map cGExpr)), (.sl 6 (y10.expr.sub.map cGQuery)), (.b y10.desc)])), (61, (.rp (oGSortKey y10)))]
   refine st 2 a24 (bsl_step (l := ([y10.expr] : List GExpr)) (f := cGExpr) (g := oGExpr) (by kernel_rfl) cGExpr_eq (by kernel_rfl) ?_)
   refine app_step (t := 3) (l := x3_9) (m := ([y10.expr] : List GExpr)) (f := cGExpr) (S' := fun y => ⟨[(65, (.osl 65 82 10 (y.map cGExpr))), (64, (.osl 64 82 10 (([y10.expr] : List GExpr).map cGExpr))), (63, (vGExpr y10.expr)), (62, (.rp [(.i .i64 y10.expr.kind), (.i .i64 y10.expr.op), (.b y10.expr.not_), (.i .i64 y10.expr.value.kind), (.i .i64 y10.expr.value.num), (.s (bs y10.expr.value.text)), (.s (bs y10.expr.qual)), (.s (bs y10.expr.name)), (.sl 10 (y10.expr.kids.map cGExpr)), (.sl 6 (y10.expr.sub.map cGQuery)), (.b y10.desc)])), (61, (.rp (oGSortKey y10))), (60, (vI x6)), (59, (.d (.sl 11 (p0.order.map cGSortKey)))), (58, (.ptr 1 4)), (57, (.d (.sl 10 (x3_9.map cGExpr)))), (54, (vB (decide (x6 < (ln p0.order))))), (53, (vI (ln p0.order))), (52, (.d (.sl 11 (p0.order.map cGSortKey)))), (51, (.ptr 1 4)), (50, (vI x6)), (1, (.ptr 1 0)), (3, (.d (.sl 10 (x3_9.map cGExpr)))), (6, (vI x6))], [(1, bGQuery p0)]⟩) h (by kernel_rfl) (by kernel_rfl) (by kernel_rfl) (by kernel_rfl) (fun y => by kernel_rfl) ?_
   clear h; intro y11 h
   let a25 : St := ⟨[(3, (.osl 3 82 10 (y11.map cGExpr))), (65, (.d (.sl 10 (y11.map cGExpr)))), (64, (.osl 64 82 10 (([y10.expr] : List GExpr).map cGExpr))), (63, (vGExpr y10.expr)), (62, (.rp [(.i .i64 y10.expr.kind), (.i .i64 y10.expr.op), (.b y10.expr.not_), (.i .i64 y10.expr.value.kind), (.i .i64 y10.expr.value.num), (.s (bs y10.expr.value.text)), (.s (bs y10.expr.qual)), (.s (bs y10.expr.name)), (.sl 10 (y10.expr.kids.map cGExpr)), (.sl 6 (y10.expr.sub.map cGQuery)), (.b y10.desc)])), (61, (.rp (oGSortKey y10))), (60, (vI x6)), (59, (.d (.sl 11 (p0.order.map cGSortKey)))), (58, (.ptr 1 4)), (57, (.d (.sl 10 (x3_9.map cGExpr)))), (54, (vB (decide (x6 < (ln p0.order))))), (53, (vI (ln p0.order))), (52, (.d (.sl 11 (p0.order.map cGSortKey)))), (51, (.ptr 1 4)), (50, (vI x6)), (1, (.ptr 1 0)), (3, (.d (.sl 10 (x3_9.map cGExpr)))), (6, (vI x6))], [(1, bGQuery p0)]⟩
   refine st 1 a25 (ni (bn (xi (oi ?_))))
   let a26 : St := a25.p [(6, (vI (IntKind.wrap .i64 (x6 + 1)))), (56, (vI (IntKind.wrap .i64 (x6 + 1)))), (55, (vI x6))]
   exact st 3 a26 (ni (loop_back (s' := stsL7Exprs_L3 p0 y11 (IntKind.wrap .i64 (x6 + 1))) (wr [(3, .old 3)] (es (eo 3 (es er_nil))) (bs_ br_nil)) (OK_sL7Exprs_L3 y11 (IntKind.wrap .i64 (x6 + 1)) _ h)))
   refine ei (te (te (bh (xi (so ?_)))))
   let a27 : St := ⟨[(2, (.osl 2 82 10 (x3_9.map cGExpr))), (66, (.d (.sl 10 (x3_9.map cGExpr)))), (54, (vB (decide (x6 < (ln p0.order))))), (53, (vI (ln p0.order))), (52, (.d (.sl 11 (p0.order.map cGSortKey)))), (51, (.ptr 1 4)), (50, (vI x6)), (1, (.ptr 1 0)), (3, (.d (.sl 10 (x3_9.map cGExpr)))), (6, (vI x6))], [(1, bGQuery p0)]⟩
   refine st 2 a27 (nx (ret_wk (s' := ⟨[(2, (.osl 2000000 82 10 (x3_9.map cGExpr)))], []⟩) (wr [(2000000, .old 2)] (eo 2 er_nil) br_nil) ?_))
   injection h with h; subst h
   exact ret1_step (v := (.osl 2000000 82 10 (x3_9.map cGExpr))) (by kernel_rfl) (by kernel_rfl) ⟨by kernel_rfl, trivial⟩
theorem OK_sL7Exprs_L3 (p0 : GQuery) (x3_9 : (List GExpr)) (x6 : Int) (r : (List GExpr)) (h : sL7Exprs_L3 p0 x3_9 x6 = some r) : avc Tryz.prog acsL7Exprs_L3 (qsL7Exprs_6 r) (stsL7Exprs_L3 p0 x3_9 x6) := (OKs_sL7Exprs_L3 p0) x3_9 x6 r h
theorem OKs_sL7Exprs_L2 (p0 : GQuery) : (∀ (x3_5 : (List GExpr)) (x5 : Int) (r : (List GExpr)), sL7Exprs_L2 p0 x3_5 x5 = some r → avc Tryz.prog acsL7Exprs_L2 (qsL7Exprs_4 r) (stsL7Exprs_L2 p0 x3_5 x5)) := by
 refine sL7Exprs_L2.partial_correctness p0 (fun x3_5 x5 r => avc Tryz.prog acsL7Exprs_L2 (qsL7Exprs_4 r) (stsL7Exprs_L2 p0 x3_5 x5)) ?_
 · intro F_sL7Exprs_L2 OK_sL7Exprs_L2 x3_5 x5 r h
   delta acsL7Exprs_L2
   refine loop_unroll (si (so ?_))
   let a12 : St := (stsL7Exprs_L2 p0 x3_5 x5).p [(33, (.d (.sl 3 (p0.from_.map cGSource)))), (32, (.ptr 1 2)), (31, (vI x5))]
   refine st 3 a12 (ps (vI (ln p0.from_)) (vln (sz := 3) (l := p0.from_) (f := cGSource)) ?_)
   let a13 : St := a12.p [(35, (vB (decide (x5 < (ln p0.from_))))), (34, (vI (ln p0.from_)))]
   refine st 1 a13 (nx ?_)
   refine cd h (fun h => ?_) fun h => ?_
   refine ki (xi (si (bi (oi ?_))))
   let a14 : St := a13.p [(41, (vI x5)), (40, (.d (.sl 3 (p0.from_.map cGSource)))), (39, (.ptr 1 2)), (38, (.osl 3 82 10 (x3_5.map cGExpr)))]
   refine st 4 a14 (vs (fun (y : GSource) => (.rp (oGSource y))) h (fun y hy => via (l := p0.from_) (f := cGSource) (g := oGSource) (k := .i64) hy cGSource_eq) fun y6 h => ?_)
   let a15 : St := a14.p [(44, (.d (.sl 10 (y6.on_.map cGExpr)))), (43, (.rp [(.sl 10 (y6.on_.map cGExpr))])), (42, (.rp (oGSource y6)))]
   refine st 2 a15 ?_
   refine app_step (t := 3) (l := x3_5) (m := y6.on_) (f := cGExpr) (S' := fun y => ⟨[(45, (.osl 45 82 10 (y.map cGExpr))), (44, (.d (.sl 10 (y6.on_.map cGExpr)))), (43, (.rp [(.sl 10 (y6.on_.map cGExpr))])), (42, (.rp (oGSource y6))), (41, (vI x5)), (40, (.d (.sl 3 (p0.from_.map cGSource)))), (39, (.ptr 1 2)), (38, (.d (.sl 10 (x3_5.map cGExpr)))), (35, (vB (decide (x5 < (ln p0.from_))))), (34, (vI (ln p0.from_))), (33, (.d (.sl 3 (p0.from_.map cGSource)))), (32, (.ptr 1 2)), (31, (vI x5)), (1, (.ptr 1 0)), (3, (.d (.sl 10 (x3_5.map cGExpr)))), (5, (vI x5))], [(1, bGQuery p0)]⟩) h (by kernel_rfl) (by kernel_rfl) (by kernel_rfl) (by kernel_rfl) (fun y => by kernel_rfl) ?_
   clear h; intro y7 h
   let a16 : St := ⟨[(3, (.osl 3 82 10 (y7.map cGExpr))), (45, (.d (.sl 10 (y7.map cGExpr)))), (44, (.d (.sl 10 (y6.on_.map cGExpr)))), (43, (.rp [(.sl 10 (y6.on_.map cGExpr))])), (42, (.rp (oGSource y6))), (41, (vI x5)), (40, (.d (.sl 3 (p0.from_.map cGSource)))), (39, (.ptr 1 2)), (38, (.d (.sl 10 (x3_5.map cGExpr)))), (35, (vB (decide (x5 < (ln p0.from_))))), (34, (vI (ln p0.from_))), (33, (.d (.sl 3 (p0.from_.map cGSource)))), (32, (.ptr 1 2)), (31, (vI x5)), (1, (.ptr 1 0)), (3, (.d (.sl 10 (x3_5.map cGExpr)))), (5, (vI x5))], [(1, bGQuery p0)]⟩
   refine st 1 a16 (ni (bn (xi (oi ?_))))
   let a17 : St := a16.p [(5, (vI (IntKind.wrap .i64 (x5 + 1)))), (37, (vI (IntKind.wrap .i64 (x5 + 1)))), (36, (vI x5))]
   exact st 3 a17 (ni (loop_back (s' := stsL7Exprs_L2 p0 y7 (IntKind.wrap .i64 (x5 + 1))) (wr [(3, .old 3)] (es (eo 3 (es er_nil))) (bs_ br_nil)) (OK_sL7Exprs_L2 y7 (IntKind.wrap .i64 (x5 + 1)) _ h)))
   refine ei (te (te (bh (xi (so ?_)))))
   let a18 : St := a13.p [(48, (.d (.sl 10 (p0.where_.map cGExpr)))), (47, (.ptr 1 3)), (46, (.osl 3 82 10 (x3_5.map cGExpr)))]
   refine st 3 a18 ?_
   refine app_step (t := 3) (l := x3_5) (m := p0.where_) (f := cGExpr) (S' := fun y => ⟨[(49, (.osl 49 82 10 (y.map cGExpr))), (48, (.d (.sl 10 (p0.where_.map cGExpr)))), (47, (.ptr 1 3)), (46, (.d (.sl 10 (x3_5.map cGExpr)))), (35, (vB (decide (x5 < (ln p0.from_))))), (34, (vI (ln p0.from_))), (33, (.d (.sl 3 (p0.from_.map cGSource)))), (32, (.ptr 1 2)), (31, (vI x5)), (1, (.ptr 1 0)), (3, (.d (.sl 10 (x3_5.map cGExpr)))), (5, (vI x5))], [(1, bGQuery p0)]⟩) h (by kernel_rfl) (by kernel_rfl) (by kernel_rfl) (by kernel_rfl) (fun y => by kernel_rfl) ?_
   clear h; intro y8 h
   let a19 : St := ⟨[(3, (.osl 3 82 10 (y8.map cGExpr))), (49, (.d (.sl 10 (y8.map cGExpr)))), (48, (.d (.sl 10 (p0.where_.map cGExpr)))), (47, (.ptr 1 3)), (46, (.d (.sl 10 (x3_5.map cGExpr)))), (35, (vB (decide (x5 < (ln p0.from_))))), (34, (vI (ln p0.from_))), (33, (.d (.sl 3 (p0.from_.map cGSource)))), (32, (.ptr 1 2)), (31, (vI x5)), (1, (.ptr 1 0)), (3, (.d (.sl 10 (x3_5.map cGExpr)))), (5, (vI x5))], [(1, bGQuery p0)]⟩
   refine st 1 a19 (nx (si (so ?_)))
   let a20 : St := a19.p [(6, (vI 0))]
   exact st 1 a20 (nx (bi (loop_go (s' := stsL7Exprs_L3 p0 y8 0) (wr [(3, .old 3)] (es (eo 3 (es er_nil))) (bs_ br_nil)) (OK_sL7Exprs_L3 p0 y8 0 _ h))))
theorem OK_sL7Exprs_L2 (p0 : GQuery) (x3_5 : (List GExpr)) (x5 : Int) (r : (List GExpr)) (h : sL7Exprs_L2 p0 x3_5 x5 = some r) : avc Tryz.prog acsL7Exprs_L2 (qsL7Exprs_4 r) (stsL7Exprs_L2 p0 x3_5 x5) := (OKs_sL7Exprs_L2 p0) x3_5 x5 r h
theorem OKs_sL7Exprs_J1 (p0 : GQuery) : (∀ (x4 : Int) (x3_4 : (List GExpr)) (r : (List GExpr)), sL7Exprs_J1 x4 p0 x3_4 = some r → avc Tryz.prog acsL7Exprs_J1 (qsL7Exprs_2 r) (stsL7Exprs_J1 x4 p0 x3_4)) ∧ (∀ (x3 : (List GExpr)) (x4 : Int) (r : (List GExpr)), sL7Exprs_L0 p0 x3 x4 = some r → avc Tryz.prog acsL7Exprs_L0 (qsL7Exprs_1 r) (stsL7Exprs_L0 p0 x3 x4)) := by
 refine sL7Exprs_J1.mutual_partial_correctness p0 (fun x4 x3_4 r => avc Tryz.prog acsL7Exprs_J1 (qsL7Exprs_2 r) (stsL7Exprs_J1 x4 p0 x3_4)) (fun x3 x4 r => avc Tryz.prog acsL7Exprs_L0 (qsL7Exprs_1 r) (stsL7Exprs_L0 p0 x3 x4)) ?_ ?_
 · intro F_sL7Exprs_L0 OK_sL7Exprs_L0 x4 x3_4 r h
   delta acsL7Exprs_J1
   refine oi ?_
   let a11 : St := (stsL7Exprs_J1 x4 p0 x3_4).p [(4, (vI (IntKind.wrap .i64 (x4 + 1)))), (14, (vI (IntKind.wrap .i64 (x4 + 1)))), (13, (vI x4))]
   exact st 3 a11 (ni (loop_back (s' := stsL7Exprs_L0 p0 x3_4 (IntKind.wrap .i64 (x4 + 1))) (wr [(3, .old 3)] (es (eo 3 (es er_nil))) (bs_ br_nil)) (OK_sL7Exprs_L0 x3_4 (IntKind.wrap .i64 (x4 + 1)) _ h)))
 · intro F_sL7Exprs_J1 OK_sL7Exprs_J1 x3 x4 r h
   delta acsL7Exprs_L0
   refine loop_unroll (si (so ?_))
   let a3 : St := (stsL7Exprs_L0 p0 x3 x4).p [(10, (.d (.sl 13 (p0.items.map cGItem)))), (9, (.ptr 1 1)), (8, (vI x4))]
   refine st 3 a3 (ps (vI (ln p0.items)) (vln (sz := 13) (l := p0.items) (f := cGItem)) ?_)
   let a4 : St := a3.p [(12, (vB (decide (x4 < (ln p0.items))))), (11, (vI (ln p0.items)))]
   refine st 1 a4 (nx ?_)
   refine cd h (fun h => ?_) fun h => ?_
   refine ki (xi (si (bi (so ?_))))
   let a5 : St := a4.p [(17, (vI x4)), (16, (.d (.sl 13 (p0.items.map cGItem)))), (15, (.ptr 1 1))]
   refine st 3 a5 (vs (fun (y : GItem) => (.rp (oGItem y))) h (fun y hy => via (l := p0.items) (f := cGItem) (g := oGItem) (k := .i64) hy cGItem_eq) fun y1 h => ?_)
   let a6 : St := a5.p [(21, (vB (!y1.star))), (20, (vB y1.star)), (19, (.rp [(.b y1.star), (.s (bs y1.qual)), (.i .i64 y1.expr.kind), (.i .i64 y1.expr.op), (.b y1.expr.not_), (.i .i64 y1.expr.value.kind), (.i .i64 y1.expr.value.num), (.s (bs y1.expr.value.text)), (.s (bs y1.expr.qual)), (.s (bs y1.expr.name)), (.sl 10 (y1.expr.kids.map cGExpr)), (.sl 6 (y1.expr.sub.map cGQuery)), (.s (bs y1.as_))])), (18, (.rp (oGItem y1)))]
   refine st 3 a6 (nx ?_)
   refine cd h (fun h => ?_) fun h => ?_
   refine oi ?_
   let a7 : St := a6.p [(25, (vI x4)), (24, (.d (.sl 13 (p0.items.map cGItem)))), (23, (.ptr 1 1)), (22, (.osl 3 82 10 (x3.map cGExpr)))]
   refine st 4 a7 (vs (fun (y : GItem) => (.rp (oGItem y))) h (fun y hy => via (l := p0.items) (f := cGItem) (g := oGItem) (k := .i64) hy cGItem_eq) fun y2 h => ?_)
   let a8 : St := a7.p [(28, (vGExpr y2.expr)), (27, (.rp [(.i .i64 y2.expr.kind), (.i .i64 y2.expr.op), (.b y2.expr.not_), (.i .i64 y2.expr.value.kind), (.i .i64 y2.expr.value.num), (.s (bs y2.expr.value.text)), (.s (bs y2.expr.qual)), (.s (bs y2.expr.name)), (.sl 10 (y2.expr.kids.map cGExpr)), (.sl 6 (y2.expr.sub.map cGQuery)), (.s (bs y2.as_))])), (26, (.rp (oGItem y2)))]
   refine st 2 a8 (bsl_step (l := ([y2.expr] : List GExpr)) (f := cGExpr) (g := oGExpr) (by kernel_rfl) cGExpr_eq (by kernel_rfl) ?_)
   refine app_step (t := 3) (l := x3) (m := ([y2.expr] : List GExpr)) (f := cGExpr) (S' := fun y => ⟨[(30, (.osl 30 82 10 (y.map cGExpr))), (29, (.osl 29 82 10 (([y2.expr] : List GExpr).map cGExpr))), (28, (vGExpr y2.expr)), (27, (.rp [(.i .i64 y2.expr.kind), (.i .i64 y2.expr.op), (.b y2.expr.not_), (.i .i64 y2.expr.value.kind), (.i .i64 y2.expr.value.num), (.s (bs y2.expr.value.text)), (.s (bs y2.expr.qual)), (.s (bs y2.expr.name)), (.sl 10 (y2.expr.kids.map cGExpr)), (.sl 6 (y2.expr.sub.map cGQuery)), (.s (bs y2.as_))])), (26, (.rp (oGItem y2))), (25, (vI x4)), (24, (.d (.sl 13 (p0.items.map cGItem)))), (23, (.ptr 1 1)), (22, (.d (.sl 10 (x3.map cGExpr)))), (21, (vB (!y1.star))), (20, (vB y1.star)), (19, (.rp [(.b y1.star), (.s (bs y1.qual)), (.i .i64 y1.expr.kind), (.i .i64 y1.expr.op), (.b y1.expr.not_), (.i .i64 y1.expr.value.kind), (.i .i64 y1.expr.value.num), (.s (bs y1.expr.value.text)), (.s (bs y1.expr.qual)), (.s (bs y1.expr.name)), (.sl 10 (y1.expr.kids.map cGExpr)), (.sl 6 (y1.expr.sub.map cGQuery)), (.s (bs y1.as_))])), (18, (.rp (oGItem y1))), (17, (vI x4)), (16, (.d (.sl 13 (p0.items.map cGItem)))), (15, (.ptr 1 1)), (12, (vB (decide (x4 < (ln p0.items))))), (11, (vI (ln p0.items))), (10, (.d (.sl 13 (p0.items.map cGItem)))), (9, (.ptr 1 1)), (8, (vI x4)), (1, (.ptr 1 0)), (3, (.d (.sl 10 (x3.map cGExpr)))), (4, (vI x4))], [(1, bGQuery p0)]⟩) h (by kernel_rfl) (by kernel_rfl) (by kernel_rfl) (by kernel_rfl) (fun y => by kernel_rfl) ?_
   clear h; intro y3 h
   let a9 : St := ⟨[(3, (.osl 3 82 10 (y3.map cGExpr))), (30, (.d (.sl 10 (y3.map cGExpr)))), (29, (.osl 29 82 10 (([y2.expr] : List GExpr).map cGExpr))), (28, (vGExpr y2.expr)), (27, (.rp [(.i .i64 y2.expr.kind), (.i .i64 y2.expr.op), (.b y2.expr.not_), (.i .i64 y2.expr.value.kind), (.i .i64 y2.expr.value.num), (.s (bs y2.expr.value.text)), (.s (bs y2.expr.qual)), (.s (bs y2.expr.name)), (.sl 10 (y2.expr.kids.map cGExpr)), (.sl 6 (y2.expr.sub.map cGQuery)), (.s (bs y2.as_))])), (26, (.rp (oGItem y2))), (25, (vI x4)), (24, (.d (.sl 13 (p0.items.map cGItem)))), (23, (.ptr 1 1)), (22, (.d (.sl 10 (x3.map cGExpr)))), (21, (vB (!y1.star))), (20, (vB y1.star)), (19, (.rp [(.b y1.star), (.s (bs y1.qual)), (.i .i64 y1.expr.kind), (.i .i64 y1.expr.op), (.b y1.expr.not_), (.i .i64 y1.expr.value.kind), (.i .i64 y1.expr.value.num), (.s (bs y1.expr.value.text)), (.s (bs y1.expr.qual)), (.s (bs y1.expr.name)), (.sl 10 (y1.expr.kids.map cGExpr)), (.sl 6 (y1.expr.sub.map cGQuery)), (.s (bs y1.as_))])), (18, (.rp (oGItem y1))), (17, (vI x4)), (16, (.d (.sl 13 (p0.items.map cGItem)))), (15, (.ptr 1 1)), (12, (vB (decide (x4 < (ln p0.items))))), (11, (vI (ln p0.items))), (10, (.d (.sl 13 (p0.items.map cGItem)))), (9, (.ptr 1 1)), (8, (vI x4)), (1, (.ptr 1 0)), (3, (.d (.sl 10 (x3.map cGExpr)))), (4, (vI x4))], [(1, bGQuery p0)]⟩
   exact st 1 a9 (ni (bn (next_step (s' := stsL7Exprs_J1 x4 p0 y3) (wr [(3, .old 3)] (es (eo 3 (es er_nil))) (bs_ br_nil)) (OK_sL7Exprs_J1 x4 y3 _ h))))
   exact ki (bn (next_step (s' := stsL7Exprs_J1 x4 p0 x3) (wr [(3, .old 3)] (es (eo 3 (es er_nil))) (bs_ br_nil)) (OK_sL7Exprs_J1 x4 x3 _ h)))
   refine ei (te (te (bh (xi (si (so ?_))))))
   let a10 : St := a4.p [(5, (vI 0))]
   exact st 1 a10 (nx (bi (loop_go (s' := stsL7Exprs_L2 p0 x3 0) (wr [(3, .old 3)] (es (eo 3 (es er_nil))) (bs_ br_nil)) (OK_sL7Exprs_L2 p0 x3 0 _ h))))
theorem OK_sL7Exprs_J1 (x4 : Int) (p0 : GQuery) (x3_4 : (List GExpr)) (r : (List GExpr)) (h : sL7Exprs_J1 x4 p0 x3_4 = some r) : avc Tryz.prog acsL7Exprs_J1 (qsL7Exprs_2 r) (stsL7Exprs_J1 x4 p0 x3_4) := (OKs_sL7Exprs_J1 p0).1 x4 x3_4 r h
theorem OK_sL7Exprs_L0 (p0 : GQuery) (x3 : (List GExpr)) (x4 : Int) (r : (List GExpr)) (h : sL7Exprs_L0 p0 x3 x4 = some r) : avc Tryz.prog acsL7Exprs_L0 (qsL7Exprs_1 r) (stsL7Exprs_L0 p0 x3 x4) := (OKs_sL7Exprs_J1 p0).2 x3 x4 r h
theorem OK_sL7Exprs (p0 : GQuery) : FOkB Tryz.prog 86 [(vGQuery p0)] [] (fun (y : (List GExpr)) => (.osl 2000000 82 10 (y.map cGExpr))) (fun (y : (List GExpr)) => []) (sL7Exprs p0) := by
 intro r h
 rw [sL7Exprs] at h
 refine aof trsL7Exprs ?_
 show avc Tryz.prog acsL7Exprs (qsL7Exprs _) ⟨[(0, (vGQuery p0))], []⟩
 delta acsL7Exprs
 refine so ?_
 let a0 : St := ⟨[(2, (.nil 10)), (1, (.ptr 1 0)), (0, (vGQuery p0))], [(1, bGQuery p0)]⟩
 refine st 2 a0 (nx (so (bsl_step (l := ([] : List GExpr)) (f := cGExpr) (g := oGExpr) (by kernel_rfl) cGExpr_eq (by kernel_rfl) ?_)))
 let a1 : St := a0.p [(3, (.osl 3 82 10 (([] : List GExpr).map cGExpr))), (7, (.d (.sl 10 (([] : List GExpr).map cGExpr))))]
 refine st 1 a1 (nx (si (so ?_)))
 let a2 : St := a1.p [(4, (vI 0))]
 exact st 1 a2 (nx (bi (loop_go (s' := stsL7Exprs_L0 p0 ([] : List GExpr) 0) (wr [(3, .old 3)] (es (eo 3 (es er_nil))) (bs_ br_nil)) (OK_sL7Exprs_L0 p0 ([] : List GExpr) 0 _ h))))
theorem OKs_sQueryDepth_L0 : (∀ (y1 : (List GExpr)) (x3 : Int) (x5 : Int) (r : Int), sQueryDepth_L0 y1 x3 x5 = some r → avc Tryz.prog acsQueryDepth_L0 (qsQueryDepth_1 r) (stsQueryDepth_L0 y1 x3 x5)) ∧ (∀ (p0 : GExpr) (r : Int), sDepthOf p0 = some r → ACalls Tryz.prog 47 [(vGExpr p0)] [] fun x _ => x = (fun y => (vI y)) r) ∧ (∀ (p0 : GExpr) (x3 : Int) (x4 : Int) (r : Int), sDepthOf_L0 p0 x3 x4 = some r → avc Tryz.prog acsDepthOf_L0 (qsDepthOf_1 r) (stsDepthOf_L0 p0 x3 x4)) ∧ (∀ (p0 : GExpr) (x3_4 : Int) (x5 : Int) (r : Int), sDepthOf_L1 p0 x3_4 x5 = some r → avc Tryz.prog acsDepthOf_L1 (qsDepthOf_3 r) (stsDepthOf_L1 p0 x3_4 x5)) ∧ (∀ (p0 : GQuery) (r : Int), sQueryDepth p0 = some r → ACalls Tryz.prog 83 [(vGQuery p0)] [] fun x _ => x = (fun y => (vI y)) r) := by
 refine sQueryDepth_L0.mutual_partial_correctness (fun y1 x3 x5 r => avc Tryz.prog acsQueryDepth_L0 (qsQueryDepth_1 r) (stsQueryDepth_L0 y1 x3 x5)) (fun p0 r => ACalls Tryz.prog 47 [(vGExpr p0)] [] fun x _ => x = (fun y => (vI y)) r) (fun p0 x3 x4 r => avc Tryz.prog acsDepthOf_L0 (qsDepthOf_1 r) (stsDepthOf_L0 p0 x3 x4)) (fun p0 x3_4 x5 r => avc Tryz.prog acsDepthOf_L1 (qsDepthOf_3 r) (stsDepthOf_L1 p0 x3_4 x5)) (fun p0 r => ACalls Tryz.prog 83 [(vGQuery p0)] [] fun x _ => x = (fun y => (vI y)) r) ?_ ?_ ?_ ?_ ?_
 · intro F_sQueryDepth_L0 F_sDepthOf OK_sQueryDepth_L0 OK_sDepthOf y1 x3 x5 r h
   delta acsQueryDepth_L0
   refine loop_unroll (si (so ?_))
   let a5 : St := (stsQueryDepth_L0 y1 x3 x5).p [(9, (.osl 4 82 10 (y1.map cGExpr))), (8, (vI x5))]
   refine st 2 a5 (ps (vI (ln y1)) (vln (sz := 10) (l := y1) (f := cGExpr)) ?_)
   let a6 : St := a5.p [(11, (vB (decide (x5 < (ln y1))))), (10, (vI (ln y1)))]
   refine st 1 a6 (nx ?_)
   refine cd h (fun h => ?_) fun h => ?_
   refine ki (xi (si (bi (oi ?_))))
   let a7 : St := a6.p [(16, (vI x5)), (15, (.osl 4 82 10 (y1.map cGExpr))), (14, (vI x3))]
   refine st 3 a7 (vs (fun (y : GExpr) => (.rp (oGExpr y))) h (fun y hy => via (l := y1) (f := cGExpr) (g := oGExpr) (k := .i64) hy cGExpr_eq) fun y2 h => ?_)
   let a8 : St := a7.p [(18, (vGExpr y2)), (17, (.rp (oGExpr y2)))]
   refine st 1 a8 (cs h (OK_sDepthOf y2) fun y3 h => (cs h (OK_sL1Max x3 y3) fun y4 h => ?_))
   let a9 : St := a8.p [(3, (vI y4)), (20, (vI y4)), (19, (vI y3))]
   refine st 1 a9 (ni (bn (xi (oi ?_))))
   let a10 : St := a9.p [(5, (vI (IntKind.wrap .i64 (x5 + 1)))), (13, (vI (IntKind.wrap .i64 (x5 + 1)))), (12, (vI x5))]
   exact st 3 a10 (ni (loop_back (s' := stsQueryDepth_L0 y1 y4 (IntKind.wrap .i64 (x5 + 1))) (wr [(4, .old 4)] (es (eo 4 (es er_nil))) br_nil) (OK_sQueryDepth_L0 y1 y4 (IntKind.wrap .i64 (x5 + 1)) _ h)))
   refine ei (te (te (bh (xi (so ?_)))))
   let a11 : St := a6.p [(2, (vI x3)), (21, (vI x3))]
   refine st 2 a11 (nx (ri ?_))
   injection h with h; subst h
   exact r1 (v := (vI x3))
 · intro F_sDepthOf_L0 OK_sDepthOf_L0 p0 r h
   refine aof trsDepthOf ?_
   show avc Tryz.prog acsDepthOf (qsDepthOf _) ⟨[(0, (vGExpr p0))], []⟩
   delta acsDepthOf
   refine so ?_
   let a0 : St := ⟨[(2, (vI 0)), (1, (.ptr 1 0)), (0, (vGExpr p0))], [(1, bGExpr p0)]⟩
   refine st 2 a0 (nx (so ?_))
   let a1 : St := a0.p [(3, (vI 0))]
   refine st 1 a1 (nx (si (so ?_)))
   let a2 : St := a1.p [(4, (vI 0))]
   exact st 1 a2 (nx (bi (loop_go (s' := stsDepthOf_L0 p0 0 0) (wr [] (es (es (es er_nil))) (bs_ br_nil)) (OK_sDepthOf_L0 p0 0 0 _ h))))
 · intro F_sDepthOf F_sDepthOf_L0 F_sDepthOf_L1 OK_sDepthOf OK_sDepthOf_L0 OK_sDepthOf_L1 p0 x3 x4 r h
   delta acsDepthOf_L0
   refine loop_unroll (si (so ?_))
   let a3 : St := (stsDepthOf_L0 p0 x3 x4).p [(8, (.d (.sl 10 (p0.kids.map cGExpr)))), (7, (.ptr 1 8)), (6, (vI x4))]
   refine st 3 a3 (ps (vI (ln p0.kids)) (vln (sz := 10) (l := p0.kids) (f := cGExpr)) ?_)
   let a4 : St := a3.p [(10, (vB (decide (x4 < (ln p0.kids))))), (9, (vI (ln p0.kids)))]
   refine st 1 a4 (nx ?_)
   refine cd h (fun h => ?_) fun h => ?_
   refine ki (xi (si (bi (oi ?_))))
   let a5 : St := a4.p [(16, (vI x4)), (15, (.d (.sl 10 (p0.kids.map cGExpr)))), (14, (.ptr 1 8)), (13, (vI x3))]
   refine st 4 a5 (vs (fun (y : GExpr) => (.rp (oGExpr y))) h (fun y hy => via (l := p0.kids) (f := cGExpr) (g := oGExpr) (k := .i64) hy cGExpr_eq) fun y1 h => ?_)
   let a6 : St := a5.p [(18, (vGExpr y1)), (17, (.rp (oGExpr y1)))]
   refine st 1 a6 (cs h (OK_sDepthOf y1) fun y2 h => (cs h (OK_sL1Max x3 y2) fun y3 h => ?_))
   let a7 : St := a6.p [(3, (vI y3)), (20, (vI y3)), (19, (vI y2))]
   refine st 1 a7 (ni (bn (xi (oi ?_))))
   let a8 : St := a7.p [(4, (vI (IntKind.wrap .i64 (x4 + 1)))), (12, (vI (IntKind.wrap .i64 (x4 + 1)))), (11, (vI x4))]
   exact st 3 a8 (ni (loop_back (s' := stsDepthOf_L0 p0 y3 (IntKind.wrap .i64 (x4 + 1))) (wr [] (es (es (es er_nil))) (bs_ br_nil)) (OK_sDepthOf_L0 p0 y3 (IntKind.wrap .i64 (x4 + 1)) _ h)))
   refine ei (te (te (bh (xi (si (so ?_))))))
   let a9 : St := a4.p [(5, (vI 0))]
   exact st 1 a9 (nx (bi (loop_go (s' := stsDepthOf_L1 p0 x3 0) (wr [] (es (es (es er_nil))) (bs_ br_nil)) (OK_sDepthOf_L1 p0 x3 0 _ h))))
 · intro F_sDepthOf_L1 F_sQueryDepth OK_sDepthOf_L1 OK_sQueryDepth p0 x3_4 x5 r h
   delta acsDepthOf_L1
   refine loop_unroll (si (so ?_))
   let a10 : St := (stsDepthOf_L1 p0 x3_4 x5).p [(23, (.d (.sl 6 (p0.sub.map cGQuery)))), (22, (.ptr 1 9)), (21, (vI x5))]
   refine st 3 a10 (ps (vI (ln p0.sub)) (vln (sz := 6) (l := p0.sub) (f := cGQuery)) ?_)
   let a11 : St := a10.p [(25, (vB (decide (x5 < (ln p0.sub))))), (24, (vI (ln p0.sub)))]
   refine st 1 a11 (nx ?_)
   refine cd h (fun h => ?_) fun h => ?_
   refine ki (xi (si (bi (oi ?_))))
   let a12 : St := a11.p [(31, (vI x5)), (30, (.d (.sl 6 (p0.sub.map cGQuery)))), (29, (.ptr 1 9)), (28, (vI x3_4))]
   refine st 4 a12 (vs (fun (y : GQuery) => (.rp (oGQuery y))) h (fun y hy => via (l := p0.sub) (f := cGQuery) (g := oGQuery) (k := .i64) hy cGQuery_eq) fun y5 h => ?_)
   let a13 : St := a12.p [(33, (vGQuery y5)), (32, (.rp (oGQuery y5)))]
   refine st 1 a13 (cs h (OK_sQueryDepth y5) fun y6 h => (cs h (OK_sL1Max x3_4 y6) fun y7 h => ?_))
   let a14 : St := a13.p [(3, (vI y7)), (35, (vI y7)), (34, (vI y6))]
   refine st 1 a14 (ni (bn (xi (oi ?_))))
   let a15 : St := a14.p [(5, (vI (IntKind.wrap .i64 (x5 + 1)))), (27, (vI (IntKind.wrap .i64 (x5 + 1)))), (26, (vI x5))]
   exact st 3 a15 (ni (loop_back (s' := stsDepthOf_L1 p0 y7 (IntKind.wrap .i64 (x5 + 1))) (wr [] (es (es (es er_nil))) (bs_ br_nil)) (OK_sDepthOf_L1 p0 y7 (IntKind.wrap .i64 (x5 + 1)) _ h)))
   refine ei (te (te (bh (xi (so ?_)))))
   let a16 : St := a11.p [(2, (vI (IntKind.wrap .i64 (x3_4 + 1)))), (37, (vI (IntKind.wrap .i64 (x3_4 + 1)))), (36, (vI x3_4))]
   refine st 3 a16 (nx (ri ?_))
   injection h with h; subst h
   exact r1 (v := (vI (IntKind.wrap .i64 (x3_4 + 1))))
 · intro F_sQueryDepth_L0 OK_sQueryDepth_L0 p0 r h
   refine aof trsQueryDepth ?_
   show avc Tryz.prog acsQueryDepth (qsQueryDepth _) ⟨[(0, (vGQuery p0))], []⟩
   delta acsQueryDepth
   refine so ?_
   let a0 : St := ⟨[(2, (vI 0)), (1, (.ptr 1 0)), (0, (vGQuery p0))], [(1, bGQuery p0)]⟩
   refine st 2 a0 (nx (so ?_))
   let a1 : St := a0.p [(3, (vI 0))]
   refine st 1 a1 (nx (so ?_))
   let a2 : St := a1.p [(6, (vGQuery p0))]
   refine st 1 a2 (callg_step ⟨[], [], [], [], [], [(2000000, 7)], [], [7]⟩ (m := sL7Exprs p0) (S' := fun (y : (List GExpr)) => ⟨(7, (.osl 7 82 10 (y.map cGExpr))) :: a2.env, a2.bx⟩) h (OK_sL7Exprs p0) (by kernel_rfl) (by kernel_rfl) (by kernel_rfl) (by kernel_rfl) (fun y => by kernel_rfl) (fun y => by kernel_rfl) ?_)
   clear h; intro y1 h
   let a3 : St := a2.p [(4, (.osl 4 82 10 (y1.map cGExpr))), (7, (.d (.sl 10 (y1.map cGExpr))))]
   refine st 1 a3 (nx (si (so ?_)))
   let a4 : St := a3.p [(5, (vI 0))]
   exact st 1 a4 (nx (bi (loop_go (s' := stsQueryDepth_L0 y1 0 0) (wr [(4, .old 4)] (es (eo 4 (es er_nil))) br_nil) (OK_sQueryDepth_L0 y1 0 0 _ h))))
theorem OK_sQueryDepth_L0 (y1 : (List GExpr)) (x3 : Int) (x5 : Int) (r : Int) (h : sQueryDepth_L0 y1 x3 x5 = some r) : avc Tryz.prog acsQueryDepth_L0 (qsQueryDepth_1 r) (stsQueryDepth_L0 y1 x3 x5) := (OKs_sQueryDepth_L0).1 y1 x3 x5 r h
theorem OK_sDepthOf (p0 : GExpr) : FOk Tryz.prog 47 [(vGExpr p0)] (fun y => (vI y)) (sDepthOf p0) := fun r h => (OKs_sQueryDepth_L0).2.1 p0 r h
theorem OK_sDepthOf_L0 (p0 : GExpr) (x3 : Int) (x4 : Int) (r : Int) (h : sDepthOf_L0 p0 x3 x4 = some r) : avc Tryz.prog acsDepthOf_L0 (qsDepthOf_1 r) (stsDepthOf_L0 p0 x3 x4) := (OKs_sQueryDepth_L0).2.2.1 p0 x3 x4 r h
theorem OK_sDepthOf_L1 (p0 : GExpr) (x3_4 : Int) (x5 : Int) (r : Int) (h : sDepthOf_L1 p0 x3_4 x5 = some r) : avc Tryz.prog acsDepthOf_L1 (qsDepthOf_3 r) (stsDepthOf_L1 p0 x3_4 x5) := (OKs_sQueryDepth_L0).2.2.2.1 p0 x3_4 x5 r h
theorem OK_sQueryDepth (p0 : GQuery) : FOk Tryz.prog 83 [(vGQuery p0)] (fun y => (vI y)) (sQueryDepth p0) := fun r h => (OKs_sQueryDepth_L0).2.2.2.2 p0 r h
theorem OKs_sL7Left_L2 : (∀ (x6 : Int) (y7 : (List GExpr)) (p0 : GExpr) (x1_8 : Int) (x8 : Int) (r : Int), sL7Left_L2 x6 y7 p0 x1_8 x8 = some r → avc Tryz.prog acsL7Left_L2 (qsL7Left_7 r) (stsL7Left_L2 x6 y7 p0 x1_8 x8)) ∧ (∀ (p0 : GExpr) (x1_4 : Int) (x6 : Int) (r : Int), sL7Left_L1 p0 x1_4 x6 = some r → avc Tryz.prog acsL7Left_L1 (qsL7Left_3 r) (stsL7Left_L1 p0 x1_4 x6)) ∧ (∀ (p0 : GExpr) (p1 : Int) (r : Int), sL7Left p0 p1 = some r → ACalls Tryz.prog 107 [(vGExpr p0), (vI p1)] [] fun x _ => x = (fun y => (vI y)) r) ∧ (∀ (p0 : GExpr) (x1 : Int) (x5 : Int) (r : Int), sL7Left_L0 p0 x1 x5 = some r → avc Tryz.prog acsL7Left_L0 (qsL7Left_1 r) (stsL7Left_L0 p0 x1 x5)) := by
 refine sL7Left_L2.mutual_partial_correctness (fun x6 y7 p0 x1_8 x8 r => avc Tryz.prog acsL7Left_L2 (qsL7Left_7 r) (stsL7Left_L2 x6 y7 p0 x1_8 x8)) (fun p0 x1_4 x6 r => avc Tryz.prog acsL7Left_L1 (qsL7Left_3 r) (stsL7Left_L1 p0 x1_4 x6)) (fun p0 p1 r => ACalls Tryz.prog 107 [(vGExpr p0), (vI p1)] [] fun x _ => x = (fun y => (vI y)) r) (fun p0 x1 x5 r => avc Tryz.prog acsL7Left_L0 (qsL7Left_1 r) (stsL7Left_L0 p0 x1 x5)) ?_ ?_ ?_ ?_
 · intro F_sL7Left_L2 F_sL7Left_L1 F_sL7Left OK_sL7Left_L2 OK_sL7Left_L1 OK_sL7Left x6 y7 p0 x1_8 x8 r h
   delta acsL7Left_L2
   refine loop_unroll (si (so ?_))
   let a17 : St := (stsL7Left_L2 x6 y7 p0 x1_8 x8).p [(47, (.osl 7 82 10 (y7.map cGExpr))), (46, (vI x8))]
   refine st 2 a17 (ps (vI (ln y7)) (vln (sz := 10) (l := y7) (f := cGExpr)) ?_)
   let a18 : St := a17.p [(50, (vB (decide (x8 < (ln y7))))), (49, (vB (decide (x8 < (ln y7))))), (48, (vI (ln y7)))]
   refine st 2 a18 (gp true (decide (x8 < (ln y7))) (vI x1_8) (fun hc => vl) (gp true (decide (x8 < (ln y7))) (vB (decide (0 ≤ x1_8))) (fun hc => vg hc) ?_))
   refine vs (fun (y : Bool) => (vB y)) h (fun y hy => vop_pickV hy (p := (true && ((decide (x8 < (ln y7))) == true))) (q := true) (by kernel_rfl) (by kernel_rfl) (by kernel_rfl) (by kernel_rfl) (fun hb => gc_t rfl hb) (fun _ => rfl)) fun y9 h => (nx ?_)
   refine cd h (fun h => ?_) fun h => ?_
   refine ki (xi (si (bi (oi ?_))))
   let a19 : St := a18.p [(57, (vI x8)), (56, (.osl 7 82 10 (y7.map cGExpr))), (53, (vB y9)), (52, (.ite (true && ((decide (x8 < (ln y7))) == true)) (vB (decide (0 ≤ x1_8))))), (51, (.ite (true && ((decide (x8 < (ln y7))) == true)) (vI x1_8)))]
   refine st 2 a19 (vs (fun (y : GExpr) => (.rp (oGExpr y))) h (fun y hy => via (l := y7) (f := cGExpr) (g := oGExpr) (k := .i64) hy cGExpr_eq) fun y10 h => ?_)
   let a20 : St := a19.p [(60, (vI x1_8)), (59, (vGExpr y10)), (58, (.rp (oGExpr y10)))]
   refine st 2 a20 (cs h (OK_sL7Left y10 x1_8) fun y11 h => ?_)
   let a21 : St := a20.p [(1, (vI y11)), (61, (vI y11))]
   refine st 1 a21 (ni (bn (xi (oi ?_))))
   let a22 : St := a21.p [(8, (vI (IntKind.wrap .i64 (x8 + 1)))), (55, (vI (IntKind.wrap .i64 (x8 + 1)))), (54, (vI x8))]
   exact st 3 a22 (ni (loop_back (s' := stsL7Left_L2 x6 y7 p0 y11 (IntKind.wrap .i64 (x8 + 1))) (wr [(7, .old 7)] (es (es (es (eo 7 (es er_nil))))) (bs_ br_nil)) (OK_sL7Left_L2 x6 y7 p0 y11 (IntKind.wrap .i64 (x8 + 1)) _ h)))
   refine ei (te (te (bh (bn (xi (oi ?_))))))
   let a23 : St := a18.p [(6, (vI (IntKind.wrap .i64 (x6 + 1)))), (39, (vI (IntKind.wrap .i64 (x6 + 1)))), (38, (vI x6)), (53, (vB y9)), (52, (.ite (true && ((decide (x8 < (ln y7))) == true)) (vB (decide (0 ≤ x1_8))))), (51, (.ite (true && ((decide (x8 < (ln y7))) == true)) (vI x1_8)))]
   exact st 3 a23 (ni (loop_back (s' := stsL7Left_L1 p0 x1_8 (IntKind.wrap .i64 (x6 + 1))) (wr [] (es (es (es er_nil))) (bs_ br_nil)) (OK_sL7Left_L1 p0 x1_8 (IntKind.wrap .i64 (x6 + 1)) _ h)))
 · intro F_sL7Left_L2 OK_sL7Left_L2 p0 x1_4 x6 r h
   delta acsL7Left_L1
   refine loop_unroll (si (so ?_))
   let a10 : St := (stsL7Left_L1 p0 x1_4 x6).p [(31, (.d (.sl 6 (p0.sub.map cGQuery)))), (30, (.ptr 2 9)), (29, (vI x6))]
   refine st 3 a10 (ps (vI (ln p0.sub)) (vln (sz := 6) (l := p0.sub) (f := cGQuery)) ?_)
   let a11 : St := a10.p [(34, (vB (decide (x6 < (ln p0.sub))))), (33, (vB (decide (x6 < (ln p0.sub))))), (32, (vI (ln p0.sub)))]
   refine st 2 a11 (gp true (decide (x6 < (ln p0.sub))) (vI x1_4) (fun hc => vl) (gp true (decide (x6 < (ln p0.sub))) (vB (decide (0 ≤ x1_4))) (fun hc => vg hc) ?_))
   refine vs (fun (y : Bool) => (vB y)) h (fun y hy => vop_pickV hy (p := (true && ((decide (x6 < (ln p0.sub))) == true))) (q := true) (by kernel_rfl) (by kernel_rfl) (by kernel_rfl) (by kernel_rfl) (fun hb => gc_t rfl hb) (fun _ => rfl)) fun y5 h => (nx ?_)
   refine cd h (fun h => ?_) fun h => ?_
   refine ki (xi (si (bi (so ?_))))
   let a12 : St := a11.p [(42, (vI x6)), (41, (.d (.sl 6 (p0.sub.map cGQuery)))), (40, (.ptr 2 9)), (37, (vB y5)), (36, (.ite (true && ((decide (x6 < (ln p0.sub))) == true)) (vB (decide (0 ≤ x1_4))))), (35, (.ite (true && ((decide (x6 < (ln p0.sub))) == true)) (vI x1_4)))]
   refine st 3 a12 (vs (fun (y : GQuery) => (.rp (oGQuery y))) h (fun y hy => via (l := p0.sub) (f := cGQuery) (g := oGQuery) (k := .i64) hy cGQuery_eq) fun y6 h => ?_)
   let a13 : St := a12.p [(44, (vGQuery y6)), (43, (.rp (oGQuery y6)))]
   refine st 1 a13 (callg_step ⟨[], [], [], [], [], [(2000000, 45)], [], [45]⟩ (m := sL7Exprs y6) (S' := fun (y : (List GExpr)) => ⟨(45, (.osl 45 82 10 (y.map cGExpr))) :: a13.env, a13.bx⟩) h (OK_sL7Exprs y6) (by kernel_rfl) (by kernel_rfl) (by kernel_rfl) (by kernel_rfl) (fun y => by kernel_rfl) (fun y => by kernel_rfl) ?_)
   clear h; intro y7 h
   let a14 : St := a13.p [(7, (.osl 7 82 10 (y7.map cGExpr))), (45, (.d (.sl 10 (y7.map cGExpr))))]
   refine st 1 a14 (nx (so ?_))
   let a15 : St := a14.p [(8, (vI 0))]
   exact st 1 a15 (nx (bi (loop_go (s' := stsL7Left_L2 x6 y7 p0 x1_4 0) (wr [(7, .old 7)] (es (es (es (eo 7 (es er_nil))))) (bs_ br_nil)) (OK_sL7Left_L2 x6 y7 p0 x1_4 0 _ h))))
   refine ei (te (te (bh (xi (so ?_)))))
   let a16 : St := a11.p [(4, (vI x1_4)), (62, (vI x1_4)), (37, (vB y5)), (36, (.ite (true && ((decide (x6 < (ln p0.sub))) == true)) (vB (decide (0 ≤ x1_4))))), (35, (.ite (true && ((decide (x6 < (ln p0.sub))) == true)) (vI x1_4)))]
   refine st 2 a16 (nx (ri ?_))
   injection h with h; subst h
   exact r1 (v := (vI x1_4))
 · intro F_sL7Left_L0 OK_sL7Left_L0 p0 p1 r h
   refine aof trsL7Left ?_
   show avc Tryz.prog acsL7Left (qsL7Left _) ⟨[(0, (vGExpr p0)), (1, (vI p1))], []⟩
   delta acsL7Left
   refine so ?_
   let a0 : St := ⟨[(4, (vI 0)), (2, (.ptr 2 0)), (0, (vGExpr p0)), (1, (vI p1))], [(2, bGExpr p0)]⟩
   refine st 2 a0 (nx (so ?_))
   let a1 : St := a0.p [(1, (vI (IntKind.wrap .i64 (p1 - 1)))), (10, (vI (IntKind.wrap .i64 (p1 - 1)))), (9, (vI p1))]
   refine st 3 a1 (nx (si (so ?_)))
   let a2 : St := a1.p [(5, (vI 0))]
   exact st 1 a2 (nx (bi (loop_go (s' := stsL7Left_L0 p0 (IntKind.wrap .i64 (p1 - 1)) 0) (wr [] (es (es (es er_nil))) (bs_ br_nil)) (OK_sL7Left_L0 p0 (IntKind.wrap .i64 (p1 - 1)) 0 _ h))))
 · intro F_sL7Left_L1 F_sL7Left F_sL7Left_L0 OK_sL7Left_L1 OK_sL7Left OK_sL7Left_L0 p0 x1 x5 r h
   delta acsL7Left_L0
   refine loop_unroll (si (so ?_))
   let a3 : St := (stsL7Left_L0 p0 x1 x5).p [(13, (.d (.sl 10 (p0.kids.map cGExpr)))), (12, (.ptr 2 8)), (11, (vI x5))]
   refine st 3 a3 (ps (vI (ln p0.kids)) (vln (sz := 10) (l := p0.kids) (f := cGExpr)) ?_)
   let a4 : St := a3.p [(16, (vB (decide (x5 < (ln p0.kids))))), (15, (vB (decide (x5 < (ln p0.kids))))), (14, (vI (ln p0.kids)))]
   refine st 2 a4 (gp true (decide (x5 < (ln p0.kids))) (vI x1) (fun hc => vl) (gp true (decide (x5 < (ln p0.kids))) (vB (decide (0 ≤ x1))) (fun hc => vg hc) ?_))
   refine vs (fun (y : Bool) => (vB y)) h (fun y hy => vop_pickV hy (p := (true && ((decide (x5 < (ln p0.kids))) == true))) (q := true) (by kernel_rfl) (by kernel_rfl) (by kernel_rfl) (by kernel_rfl) (fun hb => gc_t rfl hb) (fun _ => rfl)) fun y1 h => (nx ?_)
   refine cd h (fun h => ?_) fun h => ?_
   refine ki (xi (si (bi (oi ?_))))
   let a5 : St := a4.p [(24, (vI x5)), (23, (.d (.sl 10 (p0.kids.map cGExpr)))), (22, (.ptr 2 8)), (19, (vB y1)), (18, (.ite (true && ((decide (x5 < (ln p0.kids))) == true)) (vB (decide (0 ≤ x1))))), (17, (.ite (true && ((decide (x5 < (ln p0.kids))) == true)) (vI x1)))]
   refine st 3 a5 (vs (fun (y : GExpr) => (.rp (oGExpr y))) h (fun y hy => via (l := p0.kids) (f := cGExpr) (g := oGExpr) (k := .i64) hy cGExpr_eq) fun y2 h => ?_)
   let a6 : St := a5.p [(27, (vI x1)), (26, (vGExpr y2)), (25, (.rp (oGExpr y2)))]
   refine st 2 a6 (cs h (OK_sL7Left y2 x1) fun y3 h => ?_)
   let a7 : St := a6.p [(1, (vI y3)), (28, (vI y3))]
   refine st 1 a7 (ni (bn (xi (oi ?_))))
   let a8 : St := a7.p [(5, (vI (IntKind.wrap .i64 (x5 + 1)))), (21, (vI (IntKind.wrap .i64 (x5 + 1)))), (20, (vI x5))]
   exact st 3 a8 (ni (loop_back (s' := stsL7Left_L0 p0 y3 (IntKind.wrap .i64 (x5 + 1))) (wr [] (es (es (es er_nil))) (bs_ br_nil)) (OK_sL7Left_L0 p0 y3 (IntKind.wrap .i64 (x5 + 1)) _ h)))
   refine ei (te (te (bh (xi (si (so ?_))))))
   let a9 : St := a4.p [(6, (vI 0)), (19, (vB y1)), (18, (.ite (true && ((decide (x5 < (ln p0.kids))) == true)) (vB (decide (0 ≤ x1))))), (17, (.ite (true && ((decide (x5 < (ln p0.kids))) == true)) (vI x1)))]
   exact st 1 a9 (nx (bi (loop_go (s' := stsL7Left_L1 p0 x1 0) (wr [] (es (es (es er_nil))) (bs_ br_nil)) (OK_sL7Left_L1 p0 x1 0 _ h))))
theorem OK_sL7Left_L2 (x6 : Int) (y7 : (List GExpr)) (p0 : GExpr) (x1_8 : Int) (x8 : Int) (r : Int) (h : sL7Left_L2 x6 y7 p0 x1_8 x8 = some r) : avc Tryz.prog acsL7Left_L2 (qsL7Left_7 r) (stsL7Left_L2 x6 y7 p0 x1_8 x8) := (OKs_sL7Left_L2).1 x6 y7 p0 x1_8 x8 r h
theorem OK_sL7Left_L1 (p0 : GExpr) (x1_4 : Int) (x6 : Int) (r : Int) (h : sL7Left_L1 p0 x1_4 x6 = some r) : avc Tryz.prog acsL7Left_L1 (qsL7Left_3 r) (stsL7Left_L1 p0 x1_4 x6) := (OKs_sL7Left_L2).2.1 p0 x1_4 x6 r h
theorem OK_sL7Left (p0 : GExpr) (p1 : Int) : FOk Tryz.prog 107 [(vGExpr p0), (vI p1)] (fun y => (vI y)) (sL7Left p0 p1) := fun r h => (OKs_sL7Left_L2).2.2.1 p0 p1 r h
theorem OK_sL7Left_L0 (p0 : GExpr) (x1 : Int) (x5 : Int) (r : Int) (h : sL7Left_L0 p0 x1 x5 = some r) : avc Tryz.prog acsL7Left_L0 (qsL7Left_1 r) (stsL7Left_L0 p0 x1 x5) := (OKs_sL7Left_L2).2.2.2 p0 x1 x5 r h
theorem OK_sL1In (p0 : Int) (p1 : Int) (p2 : Int) : FOk Tryz.prog 43 [(vI p0), (vI p1), (vI p2)] (fun y => (vB y)) (sL1In p0 p1 p2) := by
 intro r h
 rw [sL1In] at h
 refine aof trsL1In ?_
 show avc Tryz.prog acsL1In (qsL1In _) ⟨[(0, (vI p0)), (1, (vI p1)), (2, (vI p2))], []⟩
 delta acsL1In
 refine so ?_
 let a0 : St := ⟨[(6, (vB false)), (0, (vI p0)), (1, (vI p1)), (2, (vI p2))], []⟩
 refine st 1 a0 (nx (so ?_))
 let a1 : St := a0.p [(10, (vB (decide (p1 ≤ p0)))), (9, (vB (decide (p1 ≤ p0)))), (8, (vI p1)), (7, (vI p0))]
 refine st 4 a1 (gp true (decide (p1 ≤ p0)) (vI p0) (fun hc => vl) (gp true (decide (p1 ≤ p0)) (vI p2) (fun hc => vl) (gp true (decide (p1 ≤ p0)) (vB (decide (p0 ≤ p2))) (fun hc => vop_val1 (Eq.trans (b := ([(true && ((decide (p1 ≤ p0)) == true)), (true && ((decide (p1 ≤ p0)) == true))] : List Bool).all id) (by kernel_rfl) (all_c hc (all_c hc rfl))) (by kernel_rfl)) ?_)))
 refine vs (fun (y : Bool) => (vB y)) h (fun y hy => vop_pickV hy (p := (true && ((decide (p1 ≤ p0)) == true))) (q := true) (by kernel_rfl) (by kernel_rfl) (by kernel_rfl) (by kernel_rfl) (fun hb => gc_t rfl hb) (fun _ => rfl)) fun y1 h => ?_
 let a2 : St := a1.p [(6, (vB y1)), (14, (vB y1)), (13, (.ite (true && ((decide (p1 ≤ p0)) == true)) (vB (decide (p0 ≤ p2))))), (12, (.ite (true && ((decide (p1 ≤ p0)) == true)) (vI p2))), (11, (.ite (true && ((decide (p1 ≤ p0)) == true)) (vI p0)))]
 refine st 1 a2 (nx (ri ?_))
 injection h with h; subst h
 exact r1 (v := (vB y1))
theorem OK_sNameOk (p0 : (List UInt8)) : FOk Tryz.prog 41 [(vS p0)] (fun y => (vB y)) (sNameOk p0) := by
 intro r h
 rw [sNameOk] at h
 refine aof trsNameOk ?_
 show avc Tryz.prog acsNameOk (qsNameOk _) ⟨[(0, (vS p0))], []⟩
 delta acsNameOk
 refine so ?_
 let a0 : St := ⟨[(2, (vB false)), (0, (vS p0))], []⟩
 refine st 1 a0 (nx (so ?_))
 let a1 : St := a0.p [(4, (vI (ln p0))), (3, (vS p0))]
 refine st 2 a1 (cs h (OK_sL1In (ln p0) 1 20) fun y1 h => ?_)
 let a2 : St := a1.p [(2, (vB y1)), (5, (vB y1))]
 refine st 1 a2 (nx (ri ?_))
 injection h with h; subst h
 exact r1 (v := (vB y1))
theorem OK_sL7Maybe (p0 : (List UInt8)) : FOk Tryz.prog 105 [(vS p0)] (fun y => (vB y)) (sL7Maybe p0) := by
 intro r h
 rw [sL7Maybe] at h
 refine aof trsL7Maybe ?_
 show avc Tryz.prog acsL7Maybe (qsL7Maybe _) ⟨[(0, (vS p0))], []⟩
 delta acsL7Maybe
 refine so ?_
 let a0 : St := ⟨[(2, (vB false)), (0, (vS p0))], []⟩
 refine st 1 a0 (nx (so ?_))
 let a1 : St := a0.p [(5, (vB (decide (p0 = [])))), (4, (vB (decide (p0 = [])))), (3, (vS p0))]
 refine st 3 a1 (gp true (decide (p0 = [])) (vS p0) (fun hc => vl) ?_)
 refine gcall_step (p := true) (b := (decide (p0 = []))) (m := sNameOk p0) (dflt := default) (args := [(vS p0)]) (v' := (fun y => (vB y))) h (by kernel_rfl) (OK_sNameOk p0) (fun hc => by kernel_rfl) (by kernel_rfl) (fun _ => rfl) (fun hc => (Eq.trans (b := ([(true && ((decide (p0 = [])) == false))] : List Bool).all id) (by kernel_rfl) (all_c hc rfl))) ?_
 clear h; intro y1 h
 refine vs (fun (y : Bool) => (vB y)) h (fun y hy => vop_pickV hy (p := true) (q := (true && ((decide (p0 = [])) == false))) (by kernel_rfl) (by kernel_rfl) (by kernel_rfl) (by kernel_rfl) (fun _ => rfl) (fun hb => gc_f rfl hb)) fun y2 h => ?_
 let a2 : St := a1.p [(2, (vB y2)), (8, (vB y2)), (7, (.ite (true && ((decide (p0 = [])) == false)) (vB y1))), (6, (.ite (true && ((decide (p0 = [])) == false)) (vS p0)))]
 refine st 1 a2 (nx (ri ?_))
 injection h with h; subst h
 exact r1 (v := (vB y2))
end Go.Proofs.YtdiknmniclancaaGreat
