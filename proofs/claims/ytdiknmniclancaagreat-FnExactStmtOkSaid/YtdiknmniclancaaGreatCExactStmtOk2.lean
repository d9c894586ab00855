/- That the code computes these functions (printed by a program). -/
import Derived.Test.YtdiknmniclancaaGreatCExactStmtOk1
namespace Go.Proofs.YtdiknmniclancaaGreat
open Go Go.RowKit Go.Ab
theorem OKs_sSameQuery_L2 : (∀ (p0 : GQuery) (p1 : GQuery) (x11 : Int) (r : Bool), sSameQuery_L2 p0 p1 x11 = some r → avc Tryz.prog acsSameQuery_L2 (qsSameQuery_5 r) (stsSameQuery_L2 p0 p1 x11)) ∧ (∀ (p0 : GExpr) (p1 : GExpr) (r : Bool), sSameExpr p0 p1 = some r → ACalls Tryz.prog 81 [(vGExpr p0), (vGExpr p1)] [] fun x _ => x = (fun y => (vB y)) r) ∧ (∀ (p0 : GExpr) (p1 : GExpr) (x5 : Int) (r : Bool), sSameExpr_L0 p0 p1 x5 = some r → avc Tryz.prog acsSameExpr_L0 (qsSameExpr_1 r) (stsSameExpr_L0 p0 p1 x5)) ∧ (∀ (p0 : GQuery) (p1 : GQuery) (r : Bool), sSameQuery p0 p1 = some r → ACalls Tryz.prog 40 [(vGQuery p0), (vGQuery p1)] [] fun x _ => x = (fun y => (vB y)) r) ∧ (∀ (p0 : GQuery) (p1 : GQuery) (x5 : Int) (r : Bool), sSameQuery_L0 p0 p1 x5 = some r → avc Tryz.prog acsSameQuery_L0 (qsSameQuery_1 r) (stsSameQuery_L0 p0 p1 x5)) ∧ (∀ (p0 : GQuery) (p1 : GQuery) (x8 : Int) (r : Bool), sSameQuery_L1 p0 p1 x8 = some r → avc Tryz.prog acsSameQuery_L1 (qsSameQuery_3 r) (stsSameQuery_L1 p0 p1 x8)) ∧ (∀ (p0 : (List GExpr)) (p1 : (List GExpr)) (r : Bool), sL7Same p0 p1 = some r → ACalls Tryz.prog 80 [(.d (.sl 10 (p0.map cGExpr))), (.d (.sl 10 (p1.map cGExpr)))] [] fun x _ => x = (fun y => (vB y)) r) ∧ (∀ (p0 : (List GExpr)) (p1 : (List GExpr)) (x5 : Int) (r : Bool), sL7Same_L0 p0 p1 x5 = some r → avc Tryz.prog acsL7Same_L0 (qsL7Same_1 r) (stsL7Same_L0 p0 p1 x5)) := by
 refine sSameQuery_L2.mutual_partial_correctness (fun p0 p1 x11 r => avc Tryz.prog acsSameQuery_L2 (qsSameQuery_5 r) (stsSameQuery_L2 p0 p1 x11)) (fun p0 p1 r => ACalls Tryz.prog 81 [(vGExpr p0), (vGExpr p1)] [] fun x _ => x = (fun y => (vB y)) r) (fun p0 p1 x5 r => avc Tryz.prog acsSameExpr_L0 (qsSameExpr_1 r) (stsSameExpr_L0 p0 p1 x5)) (fun p0 p1 r => ACalls Tryz.prog 40 [(vGQuery p0), (vGQuery p1)] [] fun x _ => x = (fun y => (vB y)) r) (fun p0 p1 x5 r => avc Tryz.prog acsSameQuery_L0 (qsSameQuery_1 r) (stsSameQuery_L0 p0 p1 x5)) (fun p0 p1 x8 r => avc Tryz.prog acsSameQuery_L1 (qsSameQuery_3 r) (stsSameQuery_L1 p0 p1 x8)) (fun p0 p1 r => ACalls Tryz.prog 80 [(.d (.sl 10 (p0.map cGExpr))), (.d (.sl 10 (p1.map cGExpr)))] [] fun x _ => x = (fun y => (vB y)) r) (fun p0 p1 x5 r => avc Tryz.prog acsL7Same_L0 (qsL7Same_1 r) (stsL7Same_L0 p0 p1 x5)) ?_ ?_ ?_ ?_ ?_ ?_ ?_ ?_
 · intro F_sSameQuery_L2 F_sSameExpr OK_sSameQuery_L2 OK_sSameExpr p0 p1 x11 r h
   delta acsSameQuery_L2
   refine loop_unroll (si (so ?_))
   let a31 : St := (stsSameQuery_L2 p0 p1 x11).p [(142, (.d (.sl 11 (p0.order.map cGSortKey)))), (141, (.ptr 2 4)), (140, (vI x11))]
   refine st 3 a31 (ps (vI (ln p0.order)) (vln (sz := 11) (l := p0.order) (f := cGSortKey)) ?_)
   let a32 : St := a31.p [(144, (vB (decide (x11 < (ln p0.order))))), (143, (vI (ln p0.order)))]
   refine st 1 a32 (nx ?_)
   refine cd h (fun h => ?_) fun h => ?_
   refine ki (xi (si (bi (si (dops_in ?_)))))
   let a33 : St := a32.p [(149, (vI x11)), (148, (.d (.sl 11 (p0.order.map cGSortKey)))), (147, (.ptr 2 4))]
   refine dsts_ok 3 (s' := a33) (by kernel_rfl) (dv_step (m := idx p0.order x11) (v' := fun y => (.rp (oGSortKey y))) h rfl rfl (fun y hy => via (l := p0.order) (f := cGSortKey) (g := oGSortKey) (k := .i64) hy cGSortKey_eq) ?_)
   clear h; intro y18 h
   let a34 : St := a33.p [(155, (vI x11)), (154, (.d (.sl 11 (p1.order.map cGSortKey)))), (153, (.ptr 3 4)), (152, (vB y18.desc)), (151, (.rp [(.b y18.desc)])), (150, (.rp (oGSortKey y18)))]
   refine dsts_ok 5 (s' := a34) (by kernel_rfl) (dv_step (m := idx p1.order x11) (v' := fun y => (.rp (oGSortKey y))) h rfl rfl (fun y hy => via (l := p1.order) (f := cGSortKey) (g := oGSortKey) (k := .i64) hy cGSortKey_eq) ?_)
   clear h; intro y19 h
   let a35 : St := a34.p [(160, (vB (!(y18.desc == y19.desc)))), (159, (vB (!(y18.desc == y19.desc)))), (158, (vB y19.desc)), (157, (.rp [(.b y19.desc)])), (156, (.rp (oGSortKey y19)))]
   refine dsts_ok 4 (s' := a35) (by kernel_rfl) (dgp_step (p := true) (b := (!(y18.desc == y19.desc))) (v' := (.ptr 2 4)) (by kernel_rfl) rfl rfl (fun hc => vl) (dgp_step (p := true) (b := (!(y18.desc == y19.desc))) (v' := (.d (.sl 11 (p0.order.map cGSortKey)))) (by kernel_rfl) rfl rfl (fun hc => vg hc) (dgp_step (p := true) (b := (!(y18.desc == y19.desc))) (v' := (vI x11)) (by kernel_rfl) rfl rfl (fun hc => vl) ?_)))
   refine dgv_step (p := true) (b := (!(y18.desc == y19.desc))) (m := idx p0.order x11) (dflt := default) (v' := fun y => (.rp (oGSortKey y))) h (by kernel_rfl) rfl rfl (fun y hy hc => vop_ia (l := p0.order) (f := cGSortKey) (g := oGSortKey) (k := .i64) hy cGSortKey_eq (Eq.trans (b := ([(true && ((!(y18.desc == y19.desc)) == false)), (true && ((!(y18.desc == y19.desc)) == false))] : List Bool).all id) (by kernel_rfl) (all_c hc (all_c hc rfl))) (by kernel_rfl) (by kernel_rfl)) ?_
   clear h; intro y20 h
   refine dgp_step (p := true) (b := (!(y18.desc == y19.desc))) (v' := (.rp [(.i .i64 y20.expr.kind), (.i .i64 y20.expr.op), (.b y20.expr.not_), (.i .i64 y20.expr.value.kind), (.i .i64 y20.expr.value.num), (.s (bs y20.expr.value.text)), (.s (bs y20.expr.qual)), (.s (bs y20.expr.name)), (.sl 10 (y20.expr.kids.map cGExpr)), (.sl 6 (y20.expr.sub.map cGQuery)), (.b y20.desc)])) (by kernel_rfl) rfl rfl (fun hc => vg hc) ?_
   refine dgp_step (p := true) (b := (!(y18.desc == y19.desc))) (v' := (vGExpr y20.expr)) (by kernel_rfl) rfl rfl (fun hc => vg hc) (dgp_step (p := true) (b := (!(y18.desc == y19.desc))) (v' := (.ptr 3 4)) (by kernel_rfl) rfl rfl (fun hc => vl) (dgp_step (p := true) (b := (!(y18.desc == y19.desc))) (v' := (.d (.sl 11 (p1.order.map cGSortKey)))) (by kernel_rfl) rfl rfl (fun hc => vg hc) ?_))
   refine dgp_step (p := true) (b := (!(y18.desc == y19.desc))) (v' := (vI x11)) (by kernel_rfl) rfl rfl (fun hc => vl) ?_
   refine dgv_step (p := true) (b := (!(y18.desc == y19.desc))) (m := idx p1.order x11) (dflt := default) (v' := fun y => (.rp (oGSortKey y))) h (by kernel_rfl) rfl rfl (fun y hy hc => vop_ia (l := p1.order) (f := cGSortKey) (g := oGSortKey) (k := .i64) hy cGSortKey_eq (Eq.trans (b := ([(true && ((!(y18.desc == y19.desc)) == false)), (true && ((!(y18.desc == y19.desc)) == false))] : List Bool).all id) (by kernel_rfl) (all_c hc (all_c hc rfl))) (by kernel_rfl) (by kernel_rfl)) ?_
   clear h; intro y21 h
   refine dgp_step (p := true) (b := (!(y18.desc == y19.desc))) (v' := (.rp [(.i .i64 y21.expr.kind), (.i .i64 y21.expr.op), (.b y21.expr.not_), (.i .i64 y21.expr.value.kind), (.i .i64 y21.expr.value.num), (.s (bs y21.expr.value.text)), (.s (bs y21.expr.qual)), (.s (bs y21.expr.name)), (.sl 10 (y21.expr.kids.map cGExpr)), (.sl 6 (y21.expr.sub.map cGQuery)), (.b y21.desc)])) (by kernel_rfl) rfl rfl (fun hc => vg hc) ?_
   refine dgp_step (p := true) (b := (!(y18.desc == y19.desc))) (v' := (vGExpr y21.expr)) (by kernel_rfl) rfl rfl (fun hc => vg hc) ?_
   refine dgcall_step (p := true) (b := (!(y18.desc == y19.desc))) (m := F_sSameExpr y20.expr y21.expr) (dflt := default) (args := [(vGExpr y20.expr), (vGExpr y21.expr)]) (v' := (fun y => (vB y))) h (by kernel_rfl) (OK_sSameExpr y20.expr y21.expr) (fun hc => by kernel_rfl) (by kernel_rfl) (fun _ => rfl) (fun hc => (Eq.trans (b := ([(true && ((!(y18.desc == y19.desc)) == false)), (true && ((!(y18.desc == y19.desc)) == false))] : List Bool).all id) (by kernel_rfl) (all_c hc (all_c hc rfl)))) ?_
   clear h; intro y22 h
   refine dgp_step (p := true) (b := (!(y18.desc == y19.desc))) (v' := (vB (!y22))) (by kernel_rfl) rfl rfl (fun hc => vg hc) ?_
   refine dv_step (m := some (if (!(y18.desc == y19.desc)) = true then true else (!y22))) (v' := fun y => (vB y)) h rfl rfl (fun y hy => vop_pickV hy (p := true) (q := (true && ((!(y18.desc == y19.desc)) == false))) (by kernel_rfl) (by kernel_rfl) (by kernel_rfl) (by kernel_rfl) (fun _ => rfl) (fun hb => gc_f rfl hb)) ?_
   clear h; intro y23 h
   refine dnil_in (by kernel_rfl) (by kernel_rfl) (xi ?_)
   refine cd h (fun h => ?_) fun h => ?_
   refine so ?_
   let a36 : St := a35.p [(4, (vB false)), (175, (vB y23)), (174, (.ite (true && ((!(y18.desc == y19.desc)) == false)) (vB (!y22)))), (173, (.ite (true && ((!(y18.desc == y19.desc)) == false)) (vB y22))), (172, (.ite (true && ((!(y18.desc == y19.desc)) == false)) (vGExpr y21.expr))), (171, (.ite (true && ((!(y18.desc == y19.desc)) == false)) (.rp [(.i .i64 y21.expr.kind), (.i .i64 y21.expr.op), (.b y21.expr.not_), (.i .i64 y21.expr.value.kind), (.i .i64 y21.expr.value.num), (.s (bs y21.expr.value.text)), (.s (bs y21.expr.qual)), (.s (bs y21.expr.name)), (.sl 10 (y21.expr.kids.map cGExpr)), (.sl 6 (y21.expr.sub.map cGQuery)), (.b y21.desc)]))), (170, (.ite (true && ((!(y18.desc == y19.desc)) == false)) (.rp (oGSortKey y21)))), (169, (.ite (true && ((!(y18.desc == y19.desc)) == false)) (vI x11))), (168, (.ite (true && ((!(y18.desc == y19.desc)) == false)) (.d (.sl 11 (p1.order.map cGSortKey))))), (167, (.ite (true && ((!(y18.desc == y19.desc)) == false)) (.ptr 3 4))), (166, (.ite (true && ((!(y18.desc == y19.desc)) == false)) (vGExpr y20.expr))), (165, (.ite (true && ((!(y18.desc == y19.desc)) == false)) (.rp [(.i .i64 y20.expr.kind), (.i .i64 y20.expr.op), (.b y20.expr.not_), (.i .i64 y20.expr.value.kind), (.i .i64 y20.expr.value.num), (.s (bs y20.expr.value.text)), (.s (bs y20.expr.qual)), (.s (bs y20.expr.name)), (.sl 10 (y20.expr.kids.map cGExpr)), (.sl 6 (y20.expr.sub.map cGQuery)), (.b y20.desc)]))), (164, (.ite (true && ((!(y18.desc == y19.desc)) == false)) (.rp (oGSortKey y20)))), (163, (.ite (true && ((!(y18.desc == y19.desc)) == false)) (vI x11))), (162, (.ite (true && ((!(y18.desc == y19.desc)) == false)) (.d (.sl 11 (p0.order.map cGSortKey))))), (161, (.ite (true && ((!(y18.desc == y19.desc)) == false)) (.ptr 2 4)))]
   refine st 1 a36 (nx (ri (br (tr (tr (br (tr ?_)))))))
   injection h with h; subst h
   exact r1 (v := (vB false))
   refine ki (bn (xi (oi ?_)))
   let a37 : St := a35.p [(11, (vI (IntKind.wrap .i64 (x11 + 1)))), (146, (vI (IntKind.wrap .i64 (x11 + 1)))), (145, (vI x11)), (175, (vB y23)), (174, (.ite (true && ((!(y18.desc == y19.desc)) == false)) (vB (!y22)))), (173, (.ite (true && ((!(y18.desc == y19.desc)) == false)) (vB y22))), (172, (.ite (true && ((!(y18.desc == y19.desc)) == false)) (vGExpr y21.expr))), (171, (.ite (true && ((!(y18.desc == y19.desc)) == false)) (.rp [(.i .i64 y21.expr.kind), (.i .i64 y21.expr.op), (.b y21.expr.not_), (.i .i64 y21.expr.value.kind), (.i .i64 y21.expr.value.num), (.s (bs y21.expr.value.text)), (.s (bs y21.expr.qual)), (.s (bs y21.expr.name)), (.sl 10 (y21.expr.kids.map cGExpr)), (.sl 6 (y21.expr.sub.map cGQuery)), (.b y21.desc)]))), (170, (.ite (true && ((!(y18.desc == y19.desc)) == false)) (.rp (oGSortKey y21)))), (169, (.ite (true && ((!(y18.desc == y19.desc)) == false)) (vI x11))), (168, (.ite (true && ((!(y18.desc == y19.desc)) == false)) (.d (.sl 11 (p1.order.map cGSortKey))))), (167, (.ite (true && ((!(y18.desc == y19.desc)) == false)) (.ptr 3 4))), (166, (.ite (true && ((!(y18.desc == y19.desc)) == false)) (vGExpr y20.expr))), (165, (.ite (true && ((!(y18.desc == y19.desc)) == false)) (.rp [(.i .i64 y20.expr.kind), (.i .i64 y20.expr.op), (.b y20.expr.not_), (.i .i64 y20.expr.value.kind), (.i .i64 y20.expr.value.num), (.s (bs y20.expr.value.text)), (.s (bs y20.expr.qual)), (.s (bs y20.expr.name)), (.sl 10 (y20.expr.kids.map cGExpr)), (.sl 6 (y20.expr.sub.map cGQuery)), (.b y20.desc)]))), (164, (.ite (true && ((!(y18.desc == y19.desc)) == false)) (.rp (oGSortKey y20)))), (163, (.ite (true && ((!(y18.desc == y19.desc)) == false)) (vI x11))), (162, (.ite (true && ((!(y18.desc == y19.desc)) == false)) (.d (.sl 11 (p0.order.map cGSortKey))))), (161, (.ite (true && ((!(y18.desc == y19.desc)) == false)) (.ptr 2 4)))]
   exact st 3 a37 (ni (loop_back (s' := stsSameQuery_L2 p0 p1 (IntKind.wrap .i64 (x11 + 1))) (wr [] (es (es (es er_nil))) (bs_ (bs_ br_nil))) (OK_sSameQuery_L2 p0 p1 (IntKind.wrap .i64 (x11 + 1)) _ h)))
   refine ei (te (te (bh (xi (so ?_)))))
   let a38 : St := a32.p [(4, (vB true))]
   refine st 1 a38 (nx (ri ?_))
   injection h with h; subst h
   exact r1 (v := (vB true))
 · intro F_sSameExpr_L0 F_sL7Same OK_sSameExpr_L0 OK_sL7Same p0 p1 r h
   refine aof trsSameExpr ?_
   show avc Tryz.prog acsSameExpr (qsSameExpr _) ⟨[(0, (vGExpr p0)), (1, (vGExpr p1))], []⟩
   delta acsSameExpr
   refine so ?_
   let a0 : St := ⟨[(4, (vB false)), (3, (.ptr 3 0)), (2, (.ptr 2 0)), (0, (vGExpr p0)), (1, (vGExpr p1))], [(3, bGExpr p1), (2, bGExpr p0)]⟩
   refine st 3 a0 (nx (si (so ?_)))
   let a1 : St := a0.p [(11, (vB (!decide (p0.kind = p1.kind)))), (10, (vB (!decide (p0.kind = p1.kind)))), (9, (vI p1.kind)), (8, (.ptr 3 0)), (7, (vI p0.kind)), (6, (.ptr 2 0))]
   refine st 6 a1 (gp true (!decide (p0.kind = p1.kind)) (.ptr 2 1) (fun hc => vl) (gp true (!decide (p0.kind = p1.kind)) (vI p0.op) (fun hc => vg hc) (gp true (!decide (p0.kind = p1.kind)) (.ptr 3 1) (fun hc => vl) (gp true (!decide (p0.kind = p1.kind)) (vI p1.op) (fun hc => vg hc) ?_))))
   refine gp true (!decide (p0.kind = p1.kind)) (vB (!decide (p0.op = p1.op))) (fun hc => vop_val1 (Eq.trans (b := ([(true && ((!decide (p0.kind = p1.kind)) == false)), (true && ((!decide (p0.kind = p1.kind)) == false))] : List Bool).all id) (by kernel_rfl) (all_c hc (all_c hc rfl))) (by kernel_rfl)) ?_
   refine vs (fun (y : Bool) => (vB y)) h (fun y hy => vop_pickV hy (p := true) (q := (true && ((!decide (p0.kind = p1.kind)) == false))) (by kernel_rfl) (by kernel_rfl) (by kernel_rfl) (by kernel_rfl) (fun _ => rfl) (fun hb => gc_f rfl hb)) fun y1 h => ?_
   let a2 : St := a1.p [(18, (vB y1)), (17, (vB y1)), (16, (.ite (true && ((!decide (p0.kind = p1.kind)) == false)) (vB (!decide (p0.op = p1.op))))), (15, (.ite (true && ((!decide (p0.kind = p1.kind)) == false)) (vI p1.op))), (14, (.ite (true && ((!decide (p0.kind = p1.kind)) == false)) (.ptr 3 1))), (13, (.ite (true && ((!decide (p0.kind = p1.kind)) == false)) (vI p0.op))), (12, (.ite (true && ((!decide (p0.kind = p1.kind)) == false)) (.ptr 2 1)))]
   refine st 1 a2 (gp true y1 (.ptr 2 2) (fun hc => vl) (gp true y1 (vB p0.not_) (fun hc => vg hc) (gp true y1 (.ptr 3 2) (fun hc => vl) (gp true y1 (vB p1.not_) (fun hc => vg hc) (gp true y1 (vB (!(p0.not_ == p1.not_))) (fun hc => vop_val1 (Eq.trans (b := ([(true && (y1 == false)), (true && (y1 == false))] : List Bool).all id) (by kernel_rfl) (all_c hc (all_c hc rfl))) (by kernel_rfl)) ?_)))))
   refine vs (fun (y : Bool) => (vB y)) h (fun y hy => vop_pickV hy (p := true) (q := (true && (y1 == false))) (by kernel_rfl) (by kernel_rfl) (by kernel_rfl) (by kernel_rfl) (fun _ => rfl) (fun hb => gc_f rfl hb)) fun y2 h => ?_
   let a3 : St := a2.p [(25, (vB y2)), (24, (vB y2)), (23, (.ite (gF y1) (vB (!(p0.not_ == p1.not_))))), (22, (.ite (gF y1) (vB p1.not_))), (21, (.ite (gF y1) (.ptr 3 2))), (20, (.ite (gF y1) (vB p0.not_))), (19, (.ite (gF y1) (.ptr 2 2)))]
   refine st 1 a3 (gp true y2 (.ptr 2 3) (fun hc => vl) (gp true y2 (vGValue p0.value) (fun hc => vg hc) (gp true y2 (.ptr 3 3) (fun hc => vl) (gp true y2 (vGValue p1.value) (fun hc => vg hc) ?_))))
   refine gp true y2 (vB (!((decide (p0.value.kind = p1.value.kind)) && ((decide (p0.value.num = p1.value.num)) && ((decide (p0.value.text = p1.value.text)) && true))))) (fun hc => vop_val1 (Eq.trans (b := ([(true && (y2 == false)), (true && (y2 == false))] : List Bool).all id) (by kernel_rfl) (all_c hc (all_c hc rfl))) (by kernel_rfl)) ?_
   refine vs (fun (y : Bool) => (vB y)) h (fun y hy => vop_pickV hy (p := true) (q := (true && (y2 == false))) (by kernel_rfl) (by kernel_rfl) (by kernel_rfl) (by kernel_rfl) (fun _ => rfl) (fun hb => gc_f rfl hb)) fun y3 h => ?_
   let a4 : St := a3.p [(32, (vB y3)), (31, (vB y3)), (30, (.ite (gF y2) (vB (!((decide (p0.value.kind = p1.value.kind)) && ((decide (p0.value.num = p1.value.num)) && ((decide (p0.value.text = p1.value.text)) && true))))))), (29, (.ite (gF y2) (vGValue p1.value))), (28, (.ite (gF y2) (.ptr 3 3))), (27, (.ite (gF y2) (vGValue p0.value))), (26, (.ite (gF y2) (.ptr 2 3)))]
   refine st 1 a4 (gp true y3 (.ptr 2 6) (fun hc => vl) (gp true y3 (vS p0.qual) (fun hc => vg hc) (gp true y3 (.ptr 3 6) (fun hc => vl) (gp true y3 (vS p1.qual) (fun hc => vg hc) (gp true y3 (vB (!decide (p0.qual = p1.qual))) (fun hc => vop_val1 (Eq.trans (b := ([(true && (y3 == false)), (true && (y3 == false))] : List Bool).all id) (by kernel_rfl) (all_c hc (all_c hc rfl))) (by kernel_rfl)) ?_)))))
   refine vs (fun (y : Bool) => (vB y)) h (fun y hy => vop_pickV hy (p := true) (q := (true && (y3 == false))) (by kernel_rfl) (by kernel_rfl) (by kernel_rfl) (by kernel_rfl) (fun _ => rfl) (fun hb => gc_f rfl hb)) fun y4 h => ?_
   let a5 : St := a4.p [(39, (vB y4)), (38, (vB y4)), (37, (.ite (gF y3) (vB (!decide (p0.qual = p1.qual))))), (36, (.ite (gF y3) (vS p1.qual))), (35, (.ite (gF y3) (.ptr 3 6))), (34, (.ite (gF y3) (vS p0.qual))), (33, (.ite (gF y3) (.ptr 2 6)))]
   refine st 1 a5 (gp true y4 (.ptr 2 7) (fun hc => vl) (gp true y4 (vS p0.name) (fun hc => vg hc) (gp true y4 (.ptr 3 7) (fun hc => vl) (gp true y4 (vS p1.name) (fun hc => vg hc) (gp true y4 (vB (!decide (p0.name = p1.name))) (fun hc => vop_val1 (Eq.trans (b := ([(true && (y4 == false)), (true && (y4 == false))] : List Bool).all id) (by kernel_rfl) (all_c hc (all_c hc rfl))) (by kernel_rfl)) ?_)))))
   refine vs (fun (y : Bool) => (vB y)) h (fun y hy => vop_pickV hy (p := true) (q := (true && (y4 == false))) (by kernel_rfl) (by kernel_rfl) (by kernel_rfl) (by kernel_rfl) (fun _ => rfl) (fun hb => gc_f rfl hb)) fun y5 h => ?_
   let a6 : St := a5.p [(46, (vB y5)), (45, (vB y5)), (44, (.ite (gF y4) (vB (!decide (p0.name = p1.name))))), (43, (.ite (gF y4) (vS p1.name))), (42, (.ite (gF y4) (.ptr 3 7))), (41, (.ite (gF y4) (vS p0.name))), (40, (.ite (gF y4) (.ptr 2 7)))]
   refine st 1 a6 (gp true y5 (.ptr 2 9) (fun hc => vl) (gp true y5 (.d (.sl 6 (p0.sub.map cGQuery))) (fun hc => vg hc) (gp true y5 (vI (ln p0.sub)) (fun hc => vop_len (sz := 6) (l := p0.sub) (f := cGQuery) (Eq.trans (b := ([(true && (y5 == false))] : List Bool).all id) (by kernel_rfl) (all_c hc rfl)) (by kernel_rfl)) (gp true y5 (.ptr 3 9) (fun hc => vl) ?_))))
   refine gp true y5 (.d (.sl 6 (p1.sub.map cGQuery))) (fun hc => vg hc) (gp true y5 (vI (ln p1.sub)) (fun hc => vop_len (sz := 6) (l := p1.sub) (f := cGQuery) (Eq.trans (b := ([(true && (y5 == false))] : List Bool).all id) (by kernel_rfl) (all_c hc rfl)) (by kernel_rfl)) ?_)
   refine gp true y5 (vB (!decide ((ln p0.sub) = (ln p1.sub)))) (fun hc => vop_val1 (Eq.trans (b := ([(true && (y5 == false)), (true && (y5 == false))] : List Bool).all id) (by kernel_rfl) (all_c hc (all_c hc rfl))) (by kernel_rfl)) ?_
   refine vs (fun (y : Bool) => (vB y)) h (fun y hy => vop_pickV hy (p := true) (q := (true && (y5 == false))) (by kernel_rfl) (by kernel_rfl) (by kernel_rfl) (by kernel_rfl) (fun _ => rfl) (fun hb => gc_f rfl hb)) fun y6 h => ?_
   let a7 : St := a6.p [(55, (vB y6)), (54, (vB y6)), (53, (.ite (gF y5) (vB (!decide ((ln p0.sub) = (ln p1.sub)))))), (52, (.ite (gF y5) (vI (ln p1.sub)))), (51, (.ite (gF y5) (.d (.sl 6 (p1.sub.map cGQuery))))), (50, (.ite (gF y5) (.ptr 3 9))), (49, (.ite (gF y5) (vI (ln p0.sub)))), (48, (.ite (gF y5) (.d (.sl 6 (p0.sub.map cGQuery))))), (47, (.ite (gF y5) (.ptr 2 9)))]
   refine st 1 a7 (gp true y6 (.ptr 2 8) (fun hc => vl) (gp true y6 (.d (.sl 10 (p0.kids.map cGExpr))) (fun hc => vg hc) (gp true y6 (.ptr 3 8) (fun hc => vl) (gp true y6 (.d (.sl 10 (p1.kids.map cGExpr))) (fun hc => vg hc) ?_))))
   refine gcall_step (p := true) (b := y6) (m := F_sL7Same p0.kids p1.kids) (dflt := default) (args := [(.d (.sl 10 (p0.kids.map cGExpr))), (.d (.sl 10 (p1.kids.map cGExpr)))]) (v' := (fun y => (vB y))) h (by kernel_rfl) (OK_sL7Same p0.kids p1.kids) (fun hc => by kernel_rfl) (by kernel_rfl) (fun _ => rfl) (fun hc => (Eq.trans (b := ([(true && (y6 == false)), (true && (y6 == false))] : List Bool).all id) (by kernel_rfl) (all_c hc (all_c hc rfl)))) ?_
   clear h; intro y7 h
   refine gp true y6 (vB (!y7)) (fun hc => vg hc) (vs (fun (y : Bool) => (vB y)) h (fun y hy => vop_pickV hy (p := true) (q := (true && (y6 == false))) (by kernel_rfl) (by kernel_rfl) (by kernel_rfl) (by kernel_rfl) (fun _ => rfl) (fun hb => gc_f rfl hb)) fun y8 h => (nx ?_))
   refine cd h (fun h => ?_) fun h => ?_
   refine so ?_
   let a8 : St := a7.p [(4, (vB false)), (62, (vB y8)), (61, (.ite (gF y6) (vB (!y7)))), (60, (.ite (gF y6) (vB y7))), (59, (.ite (gF y6) (.d (.sl 10 (p1.kids.map cGExpr))))), (58, (.ite (gF y6) (.ptr 3 8))), (57, (.ite (gF y6) (.d (.sl 10 (p0.kids.map cGExpr))))), (56, (.ite (gF y6) (.ptr 2 8)))]
   refine st 1 a8 (nx (ri (tr ?_)))
   injection h with h; subst h
   exact r1 (v := (vB false))
   refine ki (xi (si (so ?_)))
   let a9 : St := a7.p [(5, (vI 0)), (62, (vB y8)), (61, (.ite (gF y6) (vB (!y7)))), (60, (.ite (gF y6) (vB y7))), (59, (.ite (gF y6) (.d (.sl 10 (p1.kids.map cGExpr))))), (58, (.ite (gF y6) (.ptr 3 8))), (57, (.ite (gF y6) (.d (.sl 10 (p0.kids.map cGExpr))))), (56, (.ite (gF y6) (.ptr 2 8)))]
   exact st 1 a9 (nx (bi (loop_go (s' := stsSameExpr_L0 p0 p1 0) (wr [] (es (es (es er_nil))) (bs_ (bs_ br_nil))) (OK_sSameExpr_L0 p0 p1 0 _ h))))
 · intro F_sSameExpr_L0 F_sSameQuery OK_sSameExpr_L0 OK_sSameQuery p0 p1 x5 r h
   delta acsSameExpr_L0
   refine loop_unroll (si (so ?_))
   let a10 : St := (stsSameExpr_L0 p0 p1 x5).p [(65, (.d (.sl 6 (p0.sub.map cGQuery)))), (64, (.ptr 2 9)), (63, (vI x5))]
   refine st 3 a10 (ps (vI (ln p0.sub)) (vln (sz := 6) (l := p0.sub) (f := cGQuery)) ?_)
   let a11 : St := a10.p [(67, (vB (decide (x5 < (ln p0.sub))))), (66, (vI (ln p0.sub)))]
   refine st 1 a11 (nx ?_)
   refine cd h (fun h => ?_) fun h => ?_
   refine ki (xi (si (bi (si (dops_in ?_)))))
   let a12 : St := a11.p [(72, (vI x5)), (71, (.d (.sl 6 (p0.sub.map cGQuery)))), (70, (.ptr 2 9))]
   refine dsts_ok 3 (s' := a12) (by kernel_rfl) (dv_step (m := idx p0.sub x5) (v' := fun y => (.rp (oGQuery y))) h rfl rfl (fun y hy => via (l := p0.sub) (f := cGQuery) (g := oGQuery) (k := .i64) hy cGQuery_eq) ?_)
   clear h; intro y9 h
   let a13 : St := a12.p [(77, (vI x5)), (76, (.d (.sl 6 (p1.sub.map cGQuery)))), (75, (.ptr 3 9)), (74, (vGQuery y9)), (73, (.rp (oGQuery y9)))]
   refine dsts_ok 4 (s' := a13) (by kernel_rfl) (dv_step (m := idx p1.sub x5) (v' := fun y => (.rp (oGQuery y))) h rfl rfl (fun y hy => via (l := p1.sub) (f := cGQuery) (g := oGQuery) (k := .i64) hy cGQuery_eq) ?_)
   clear h; intro y10 h
   let a14 : St := a13.p [(79, (vGQuery y10)), (78, (.rp (oGQuery y10)))]
   refine dsts_ok 1 (s' := a14) (by kernel_rfl) (dcall_step (m := F_sSameQuery y9 y10) (args := [(vGQuery y9), (vGQuery y10)]) (v' := (fun y => (vB y))) h (OK_sSameQuery y9 y10) (by kernel_rfl) (by kernel_rfl) (fun _ => rfl) ?_)
   clear h; intro y11 h
   let a15 : St := a14.p [(81, (vB (!y11))), (80, (vB y11))]
   refine dsts_ok 1 (s' := a15) (by kernel_rfl) (dnil_in (by kernel_rfl) (by kernel_rfl) (xi ?_))
   refine cd h (fun h => ?_) fun h => ?_
   refine so ?_
   let a16 : St := a15.p [(4, (vB false))]
   refine st 1 a16 (nx (ri (br (tr (tr (br (tr ?_)))))))
   injection h with h; subst h
   exact r1 (v := (vB false))
   refine ki (bn (xi (oi ?_)))
   let a17 : St := a15.p [(5, (vI (IntKind.wrap .i64 (x5 + 1)))), (69, (vI (IntKind.wrap .i64 (x5 + 1)))), (68, (vI x5))]
   exact st 3 a17 (ni (loop_back (s' := stsSameExpr_L0 p0 p1 (IntKind.wrap .i64 (x5 + 1))) (wr [] (es (es (es er_nil))) (bs_ (bs_ br_nil))) (OK_sSameExpr_L0 p0 p1 (IntKind.wrap .i64 (x5 + 1)) _ h)))
   refine ei (te (te (bh (xi (so ?_)))))
   let a18 : St := a11.p [(4, (vB true))]
   refine st 1 a18 (nx (ri ?_))
   injection h with h; subst h
   exact r1 (v := (vB true))
 · intro F_sSameQuery_L0 F_sL7Same OK_sSameQuery_L0 OK_sL7Same p0 p1 r h
   refine aof trsSameQuery ?_
   show avc Tryz.prog acsSameQuery (qsSameQuery _) ⟨[(0, (vGQuery p0)), (1, (vGQuery p1))], []⟩
   delta acsSameQuery
   refine so ?_
   let a0 : St := ⟨[(4, (vB false)), (3, (.ptr 3 0)), (2, (.ptr 2 0)), (0, (vGQuery p0)), (1, (vGQuery p1))], [(3, bGQuery p1), (2, bGQuery p0)]⟩
   refine st 3 a0 (nx (si (so ?_)))
   let a1 : St := a0.p [(17, (vB (!(p0.distinct == p1.distinct)))), (16, (vB (!(p0.distinct == p1.distinct)))), (15, (vB p1.distinct)), (14, (.ptr 3 0)), (13, (vB p0.distinct)), (12, (.ptr 2 0))]
   refine st 6 a1 (gp true (!(p0.distinct == p1.distinct)) (.ptr 2 5) (fun hc => vl) (gp true (!(p0.distinct == p1.distinct)) (vI p0.limit) (fun hc => vg hc) (gp true (!(p0.distinct == p1.distinct)) (.ptr 3 5) (fun hc => vl) (gp true (!(p0.distinct == p1.distinct)) (vI p1.limit) (fun hc => vg hc) ?_))))
   refine gp true (!(p0.distinct == p1.distinct)) (vB (!decide (p0.limit = p1.limit))) (fun hc => vop_val1 (Eq.trans (b := ([(true && ((!(p0.distinct == p1.distinct)) == false)), (true && ((!(p0.distinct == p1.distinct)) == false))] : List Bool).all id) (by kernel_rfl) (all_c hc (all_c hc rfl))) (by kernel_rfl)) ?_
   refine vs (fun (y : Bool) => (vB y)) h (fun y hy => vop_pickV hy (p := true) (q := (true && ((!(p0.distinct == p1.distinct)) == false))) (by kernel_rfl) (by kernel_rfl) (by kernel_rfl) (by kernel_rfl) (fun _ => rfl) (fun hb => gc_f rfl hb)) fun y1 h => ?_
   let a2 : St := a1.p [(24, (vB y1)), (23, (vB y1)), (22, (.ite (true && ((!(p0.distinct == p1.distinct)) == false)) (vB (!decide (p0.limit = p1.limit))))), (21, (.ite (true && ((!(p0.distinct == p1.distinct)) == false)) (vI p1.limit))), (20, (.ite (true && ((!(p0.distinct == p1.distinct)) == false)) (.ptr 3 5))), (19, (.ite (true && ((!(p0.distinct == p1.distinct)) == false)) (vI p0.limit))), (18, (.ite (true && ((!(p0.distinct == p1.distinct)) == false)) (.ptr 2 5)))]
   refine st 1 a2 (gp true y1 (.ptr 2 1) (fun hc => vl) (gp true y1 (.d (.sl 13 (p0.items.map cGItem))) (fun hc => vg hc) (gp true y1 (vI (ln p0.items)) (fun hc => vop_len (sz := 13) (l := p0.items) (f := cGItem) (Eq.trans (b := ([(true && (y1 == false))] : List Bool).all id) (by kernel_rfl) (all_c hc rfl)) (by kernel_rfl)) (gp true y1 (.ptr 3 1) (fun hc => vl) ?_))))
   refine gp true y1 (.d (.sl 13 (p1.items.map cGItem))) (fun hc => vg hc) (gp true y1 (vI (ln p1.items)) (fun hc => vop_len (sz := 13) (l := p1.items) (f := cGItem) (Eq.trans (b := ([(true && (y1 == false))] : List Bool).all id) (by kernel_rfl) (all_c hc rfl)) (by kernel_rfl)) ?_)
   refine gp true y1 (vB (!decide ((ln p0.items) = (ln p1.items)))) (fun hc => vop_val1 (Eq.trans (b := ([(true && (y1 == false)), (true && (y1 == false))] : List Bool).all id) (by kernel_rfl) (all_c hc (all_c hc rfl))) (by kernel_rfl)) ?_
   refine vs (fun (y : Bool) => (vB y)) h (fun y hy => vop_pickV hy (p := true) (q := (true && (y1 == false))) (by kernel_rfl) (by kernel_rfl) (by kernel_rfl) (by kernel_rfl) (fun _ => rfl) (fun hb => gc_f rfl hb)) fun y2 h => ?_
   let a3 : St := a2.p [(33, (vB y2)), (32, (vB y2)), (31, (.ite (gF y1) (vB (!decide ((ln p0.items) = (ln p1.items)))))), (30, (.ite (gF y1) (vI (ln p1.items)))), (29, (.ite (gF y1) (.d (.sl 13 (p1.items.map cGItem))))), (28, (.ite (gF y1) (.ptr 3 1))), (27, (.ite (gF y1) (vI (ln p0.items)))), (26, (.ite (gF y1) (.d (.sl 13 (p0.items.map cGItem))))), (25, (.ite (gF y1) (.ptr 2 1)))]
   refine st 1 a3 (gp true y2 (.ptr 2 2) (fun hc => vl) (gp true y2 (.d (.sl 3 (p0.from_.map cGSource))) (fun hc => vg hc) (gp true y2 (vI (ln p0.from_)) (fun hc => vop_len (sz := 3) (l := p0.from_) (f := cGSource) (Eq.trans (b := ([(true && (y2 == false))] : List Bool).all id) (by kernel_rfl) (all_c hc rfl)) (by kernel_rfl)) (gp true y2 (.ptr 3 2) (fun hc => vl) ?_))))
   refine gp true y2 (.d (.sl 3 (p1.from_.map cGSource))) (fun hc => vg hc) (gp true y2 (vI (ln p1.from_)) (fun hc => vop_len (sz := 3) (l := p1.from_) (f := cGSource) (Eq.trans (b := ([(true && (y2 == false))] : List Bool).all id) (by kernel_rfl) (all_c hc rfl)) (by kernel_rfl)) ?_)
   refine gp true y2 (vB (!decide ((ln p0.from_) = (ln p1.from_)))) (fun hc => vop_val1 (Eq.trans (b := ([(true && (y2 == false)), (true && (y2 == false))] : List Bool).all id) (by kernel_rfl) (all_c hc (all_c hc rfl))) (by kernel_rfl)) ?_
   refine vs (fun (y : Bool) => (vB y)) h (fun y hy => vop_pickV hy (p := true) (q := (true && (y2 == false))) (by kernel_rfl) (by kernel_rfl) (by kernel_rfl) (by kernel_rfl) (fun _ => rfl) (fun hb => gc_f rfl hb)) fun y3 h => ?_
   let a4 : St := a3.p [(42, (vB y3)), (41, (vB y3)), (40, (.ite (gF y2) (vB (!decide ((ln p0.from_) = (ln p1.from_)))))), (39, (.ite (gF y2) (vI (ln p1.from_)))), (38, (.ite (gF y2) (.d (.sl 3 (p1.from_.map cGSource))))), (37, (.ite (gF y2) (.ptr 3 2))), (36, (.ite (gF y2) (vI (ln p0.from_)))), (35, (.ite (gF y2) (.d (.sl 3 (p0.from_.map cGSource))))), (34, (.ite (gF y2) (.ptr 2 2)))]
   refine st 1 a4 (gp true y3 (.ptr 2 4) (fun hc => vl) (gp true y3 (.d (.sl 11 (p0.order.map cGSortKey))) (fun hc => vg hc) (gp true y3 (vI (ln p0.order)) (fun hc => vop_len (sz := 11) (l := p0.order) (f := cGSortKey) (Eq.trans (b := ([(true && (y3 == false))] : List Bool).all id) (by kernel_rfl) (all_c hc rfl)) (by kernel_rfl)) (gp true y3 (.ptr 3 4) (fun hc => vl) ?_))))
   refine gp true y3 (.d (.sl 11 (p1.order.map cGSortKey))) (fun hc => vg hc) (gp true y3 (vI (ln p1.order)) (fun hc => vop_len (sz := 11) (l := p1.order) (f := cGSortKey) (Eq.trans (b := ([(true && (y3 == false))] : List Bool).all id) (by kernel_rfl) (all_c hc rfl)) (by kernel_rfl)) ?_)
   refine gp true y3 (vB (!decide ((ln p0.order) = (ln p1.order)))) (fun hc => vop_val1 (Eq.trans (b := ([(true && (y3 == false)), (true && (y3 == false))] : List Bool).all id) (by kernel_rfl) (all_c hc (all_c hc rfl))) (by kernel_rfl)) ?_
   refine vs (fun (y : Bool) => (vB y)) h (fun y hy => vop_pickV hy (p := true) (q := (true && (y3 == false))) (by kernel_rfl) (by kernel_rfl) (by kernel_rfl) (by kernel_rfl) (fun _ => rfl) (fun hb => gc_f rfl hb)) fun y4 h => ?_
   let a5 : St := a4.p [(51, (vB y4)), (50, (vB y4)), (49, (.ite (gF y3) (vB (!decide ((ln p0.order) = (ln p1.order)))))), (48, (.ite (gF y3) (vI (ln p1.order)))), (47, (.ite (gF y3) (.d (.sl 11 (p1.order.map cGSortKey))))), (46, (.ite (gF y3) (.ptr 3 4))), (45, (.ite (gF y3) (vI (ln p0.order)))), (44, (.ite (gF y3) (.d (.sl 11 (p0.order.map cGSortKey))))), (43, (.ite (gF y3) (.ptr 2 4)))]
   refine st 1 a5 (gp true y4 (.ptr 2 3) (fun hc => vl) (gp true y4 (.d (.sl 10 (p0.where_.map cGExpr))) (fun hc => vg hc) (gp true y4 (.ptr 3 3) (fun hc => vl) (gp true y4 (.d (.sl 10 (p1.where_.map cGExpr))) (fun hc => vg hc) ?_))))
   refine gcall_step (p := true) (b := y4) (m := F_sL7Same p0.where_ p1.where_) (dflt := default) (args := [(.d (.sl 10 (p0.where_.map cGExpr))), (.d (.sl 10 (p1.where_.map cGExpr)))]) (v' := (fun y => (vB y))) h (by kernel_rfl) (OK_sL7Same p0.where_ p1.where_) (fun hc => by kernel_rfl) (by kernel_rfl) (fun _ => rfl) (fun hc => (Eq.trans (b := ([(true && (y4 == false)), (true && (y4 == false))] : List Bool).all id) (by kernel_rfl) (all_c hc (all_c hc rfl)))) ?_
   clear h; intro y5 h
   refine gp true y4 (vB (!y5)) (fun hc => vg hc) (vs (fun (y : Bool) => (vB y)) h (fun y hy => vop_pickV hy (p := true) (q := (true && (y4 == false))) (by kernel_rfl) (by kernel_rfl) (by kernel_rfl) (by kernel_rfl) (fun _ => rfl) (fun hb => gc_f rfl hb)) fun y6 h => (nx ?_))
   refine cd h (fun h => ?_) fun h => ?_
   refine so ?_
   let a6 : St := a5.p [(4, (vB false)), (58, (vB y6)), (57, (.ite (gF y4) (vB (!y5)))), (56, (.ite (gF y4) (vB y5))), (55, (.ite (gF y4) (.d (.sl 10 (p1.where_.map cGExpr))))), (54, (.ite (gF y4) (.ptr 3 3))), (53, (.ite (gF y4) (.d (.sl 10 (p0.where_.map cGExpr))))), (52, (.ite (gF y4) (.ptr 2 3)))]
   refine st 1 a6 (nx (ri (tr ?_)))
   injection h with h; subst h
   exact r1 (v := (vB false))
   refine ki (xi (si (so ?_)))
   let a7 : St := a5.p [(5, (vI 0)), (58, (vB y6)), (57, (.ite (gF y4) (vB (!y5)))), (56, (.ite (gF y4) (vB y5))), (55, (.ite (gF y4) (.d (.sl 10 (p1.where_.map cGExpr))))), (54, (.ite (gF y4) (.ptr 3 3))), (53, (.ite (gF y4) (.d (.sl 10 (p0.where_.map cGExpr))))), (52, (.ite (gF y4) (.ptr 2 3)))]
   exact st 1 a7 (nx (bi (loop_go (s' := stsSameQuery_L0 p0 p1 0) (wr [] (es (es (es er_nil))) (bs_ (bs_ br_nil))) (OK_sSameQuery_L0 p0 p1 0 _ h))))
 · intro F_sSameExpr F_sSameQuery_L0 F_sSameQuery_L1 OK_sSameExpr OK_sSameQuery_L0 OK_sSameQuery_L1 p0 p1 x5 r h
   delta acsSameQuery_L0
   refine loop_unroll (si (so ?_))
   let a8 : St := (stsSameQuery_L0 p0 p1 x5).p [(61, (.d (.sl 13 (p0.items.map cGItem)))), (60, (.ptr 2 1)), (59, (vI x5))]
   refine st 3 a8 (ps (vI (ln p0.items)) (vln (sz := 13) (l := p0.items) (f := cGItem)) ?_)
   let a9 : St := a8.p [(63, (vB (decide (x5 < (ln p0.items))))), (62, (vI (ln p0.items)))]
   refine st 1 a9 (nx ?_)
   refine cd h (fun h => ?_) fun h => ?_
   refine ki (xi (si (bi (so ?_))))
   let a10 : St := a9.p [(68, (vI x5)), (67, (.d (.sl 13 (p0.items.map cGItem)))), (66, (.ptr 2 1))]
   refine st 3 a10 (vs (fun (y : GItem) => (.rp (oGItem y))) h (fun y hy => via (l := p0.items) (f := cGItem) (g := oGItem) (k := .i64) hy cGItem_eq) fun y7 h => ?_)
   let a11 : St := ⟨(6, (.ptr 6 0)) :: (70, (vGItem y7)) :: (69, (.rp (oGItem y7))) :: a10.env, [(6, bGItem y7), (2, bGQuery p0), (3, bGQuery p1)]⟩
   refine st 3 a11 (nx (so ?_))
   let a12 : St := a11.p [(73, (vI x5)), (72, (.d (.sl 13 (p1.items.map cGItem)))), (71, (.ptr 3 1))]
   refine st 3 a12 (vs (fun (y : GItem) => (.rp (oGItem y))) h (fun y hy => via (l := p1.items) (f := cGItem) (g := oGItem) (k := .i64) hy cGItem_eq) fun y8 h => ?_)
   let a13 : St := ⟨(7, (.ptr 7 0)) :: (75, (vGItem y8)) :: (74, (.rp (oGItem y8))) :: a12.env, [(7, bGItem y8), (6, bGItem y7), (2, bGQuery p0), (3, bGQuery p1)]⟩
   refine st 3 a13 (nx (so ?_))
   let a14 : St := a13.p [(81, (vB (!(y7.star == y8.star)))), (80, (vB (!(y7.star == y8.star)))), (79, (vB y8.star)), (78, (.ptr 7 0)), (77, (vB y7.star)), (76, (.ptr 6 0))]
   refine st 6 a14 (gp true (!(y7.star == y8.star)) (.ptr 6 1) (fun hc => vl) (gp true (!(y7.star == y8.star)) (vS y7.qual) (fun hc => vg hc) (gp true (!(y7.star == y8.star)) (.ptr 7 1) (fun hc => vl) (gp true (!(y7.star == y8.star)) (vS y8.qual) (fun hc => vg hc) ?_))))
   refine gp true (!(y7.star == y8.star)) (vB (!decide (y7.qual = y8.qual))) (fun hc => vop_val1 (Eq.trans (b := ([(true && ((!(y7.star == y8.star)) == false)), (true && ((!(y7.star == y8.star)) == false))] : List Bool).all id) (by kernel_rfl) (all_c hc (all_c hc rfl))) (by kernel_rfl)) ?_
   refine vs (fun (y : Bool) => (vB y)) h (fun y hy => vop_pickV hy (p := true) (q := (true && ((!(y7.star == y8.star)) == false))) (by kernel_rfl) (by kernel_rfl) (by kernel_rfl) (by kernel_rfl) (fun _ => rfl) (fun hb => gc_f rfl hb)) fun y9 h => ?_
   let a15 : St := a14.p [(88, (vB y9)), (87, (vB y9)), (86, (.ite (true && ((!(y7.star == y8.star)) == false)) (vB (!decide (y7.qual = y8.qual))))), (85, (.ite (true && ((!(y7.star == y8.star)) == false)) (vS y8.qual))), (84, (.ite (true && ((!(y7.star == y8.star)) == false)) (.ptr 7 1))), (83, (.ite (true && ((!(y7.star == y8.star)) == false)) (vS y7.qual))), (82, (.ite (true && ((!(y7.star == y8.star)) == false)) (.ptr 6 1)))]
   refine st 1 a15 (gp true y9 (.ptr 6 12) (fun hc => vl) (gp true y9 (vS y7.as_) (fun hc => vg hc) (gp true y9 (.ptr 7 12) (fun hc => vl) (gp true y9 (vS y8.as_) (fun hc => vg hc) (gp true y9 (vB (!decide (y7.as_ = y8.as_))) (fun hc => vop_val1 (Eq.trans (b := ([(true && (y9 == false)), (true && (y9 == false))] : List Bool).all id) (by kernel_rfl) (all_c hc (all_c hc rfl))) (by kernel_rfl)) ?_)))))
   refine vs (fun (y : Bool) => (vB y)) h (fun y hy => vop_pickV hy (p := true) (q := (true && (y9 == false))) (by kernel_rfl) (by kernel_rfl) (by kernel_rfl) (by kernel_rfl) (fun _ => rfl) (fun hb => gc_f rfl hb)) fun y10 h => ?_
   let a16 : St := a15.p [(95, (vB y10)), (94, (vB y10)), (93, (.ite (gF y9) (vB (!decide (y7.as_ = y8.as_))))), (92, (.ite (gF y9) (vS y8.as_))), (91, (.ite (gF y9) (.ptr 7 12))), (90, (.ite (gF y9) (vS y7.as_))), (89, (.ite (gF y9) (.ptr 6 12)))]
   refine st 1 a16 (gp true y10 (.ptr 6 2) (fun hc => vl) (gp true y10 (vGExpr y7.expr) (fun hc => vg hc) (gp true y10 (.ptr 7 2) (fun hc => vl) (gp true y10 (vGExpr y8.expr) (fun hc => vg hc) ?_))))
   refine gcall_step (p := true) (b := y10) (m := F_sSameExpr y7.expr y8.expr) (dflt := default) (args := [(vGExpr y7.expr), (vGExpr y8.expr)]) (v' := (fun y => (vB y))) h (by kernel_rfl) (OK_sSameExpr y7.expr y8.expr) (fun hc => by kernel_rfl) (by kernel_rfl) (fun _ => rfl) (fun hc => (Eq.trans (b := ([(true && (y10 == false)), (true && (y10 == false))] : List Bool).all id) (by kernel_rfl) (all_c hc (all_c hc rfl)))) ?_
   clear h; intro y11 h
   refine gp true y10 (vB (!y11)) (fun hc => vg hc) (vs (fun (y : Bool) => (vB y)) h (fun y hy => vop_pickV hy (p := true) (q := (true && (y10 == false))) (by kernel_rfl) (by kernel_rfl) (by kernel_rfl) (by kernel_rfl) (fun _ => rfl) (fun hb => gc_f rfl hb)) fun y12 h => (nx ?_))
   refine cd h (fun h => ?_) fun h => ?_
   refine so ?_
   let a17 : St := a16.p [(4, (vB false)), (102, (vB y12)), (101, (.ite (gF y10) (vB (!y11)))), (100, (.ite (gF y10) (vB y11))), (99, (.ite (gF y10) (vGExpr y8.expr))), (98, (.ite (gF y10) (.ptr 7 2))), (97, (.ite (gF y10) (vGExpr y7.expr))), (96, (.ite (gF y10) (.ptr 6 2)))]
   refine st 1 a17 (nx (ri (br (tr (tr (br (tr ?_)))))))
   injection h with h; subst h
   exact r1 (v := (vB false))
   refine ki (bn (xi (oi ?_)))
   let a18 : St := a16.p [(5, (vI (IntKind.wrap .i64 (x5 + 1)))), (65, (vI (IntKind.wrap .i64 (x5 + 1)))), (64, (vI x5)), (102, (vB y12)), (101, (.ite (gF y10) (vB (!y11)))), (100, (.ite (gF y10) (vB y11))), (99, (.ite (gF y10) (vGExpr y8.expr))), (98, (.ite (gF y10) (.ptr 7 2))), (97, (.ite (gF y10) (vGExpr y7.expr))), (96, (.ite (gF y10) (.ptr 6 2)))]
   exact st 3 a18 (ni (loop_back (s' := stsSameQuery_L0 p0 p1 (IntKind.wrap .i64 (x5 + 1))) (wr [] (es (es (es er_nil))) (bs_ (bs_ br_nil))) (OK_sSameQuery_L0 p0 p1 (IntKind.wrap .i64 (x5 + 1)) _ h)))
   refine ei (te (te (bh (xi (si (so ?_))))))
   let a19 : St := a9.p [(8, (vI 0))]
   exact st 1 a19 (nx (bi (loop_go (s' := stsSameQuery_L1 p0 p1 0) (wr [] (es (es (es er_nil))) (bs_ (bs_ br_nil))) (OK_sSameQuery_L1 p0 p1 0 _ h))))
 · intro F_sSameQuery_L2 F_sSameQuery_L1 F_sL7Same OK_sSameQuery_L2 OK_sSameQuery_L1 OK_sL7Same p0 p1 x8 r h
   delta acsSameQuery_L1
   refine loop_unroll (si (so ?_))
   let a20 : St := (stsSameQuery_L1 p0 p1 x8).p [(105, (.d (.sl 3 (p0.from_.map cGSource)))), (104, (.ptr 2 2)), (103, (vI x8))]
   refine st 3 a20 (ps (vI (ln p0.from_)) (vln (sz := 3) (l := p0.from_) (f := cGSource)) ?_)
   let a21 : St := a20.p [(107, (vB (decide (x8 < (ln p0.from_))))), (106, (vI (ln p0.from_)))]
   refine st 1 a21 (nx ?_)
   refine cd h (fun h => ?_) fun h => ?_
   refine ki (xi (si (bi (so ?_))))
   let a22 : St := a21.p [(112, (vI x8)), (111, (.d (.sl 3 (p0.from_.map cGSource)))), (110, (.ptr 2 2))]
   refine st 3 a22 (vs (fun (y : GSource) => (.rp (oGSource y))) h (fun y hy => via (l := p0.from_) (f := cGSource) (g := oGSource) (k := .i64) hy cGSource_eq) fun y13 h => ?_)
   let a23 : St := ⟨(9, (.ptr 9 0)) :: (114, (vGSource y13)) :: (113, (.rp (oGSource y13))) :: a22.env, [(9, bGSource y13), (2, bGQuery p0), (3, bGQuery p1)]⟩
   refine st 3 a23 (nx (so ?_))
   let a24 : St := a23.p [(117, (vI x8)), (116, (.d (.sl 3 (p1.from_.map cGSource)))), (115, (.ptr 3 2))]
   refine st 3 a24 (vs (fun (y : GSource) => (.rp (oGSource y))) h (fun y hy => via (l := p1.from_) (f := cGSource) (g := oGSource) (k := .i64) hy cGSource_eq) fun y14 h => ?_)
   let a25 : St := ⟨(10, (.ptr 10 0)) :: (119, (vGSource y14)) :: (118, (.rp (oGSource y14))) :: a24.env, [(10, bGSource y14), (9, bGSource y13), (2, bGQuery p0), (3, bGQuery p1)]⟩
   refine st 3 a25 (nx (so ?_))
   let a26 : St := a25.p [(125, (vB (!decide (y13.table = y14.table)))), (124, (vB (!decide (y13.table = y14.table)))), (123, (vS y14.table)), (122, (.ptr 10 0)), (121, (vS y13.table)), (120, (.ptr 9 0))]
   refine st 6 a26 (gp true (!decide (y13.table = y14.table)) (.ptr 9 1) (fun hc => vl) (gp true (!decide (y13.table = y14.table)) (vS y13.as_) (fun hc => vg hc) (gp true (!decide (y13.table = y14.table)) (.ptr 10 1) (fun hc => vl) (gp true (!decide (y13.table = y14.table)) (vS y14.as_) (fun hc => vg hc) ?_))))
   refine gp true (!decide (y13.table = y14.table)) (vB (!decide (y13.as_ = y14.as_))) (fun hc => vop_val1 (Eq.trans (b := ([(true && ((!decide (y13.table = y14.table)) == false)), (true && ((!decide (y13.table = y14.table)) == false))] : List Bool).all id) (by kernel_rfl) (all_c hc (all_c hc rfl))) (by kernel_rfl)) ?_
   refine vs (fun (y : Bool) => (vB y)) h (fun y hy => vop_pickV hy (p := true) (q := (true && ((!decide (y13.table = y14.table)) == false))) (by kernel_rfl) (by kernel_rfl) (by kernel_rfl) (by kernel_rfl) (fun _ => rfl) (fun hb => gc_f rfl hb)) fun y15 h => ?_
   let a27 : St := a26.p [(132, (vB y15)), (131, (vB y15)), (130, (.ite (true && ((!decide (y13.table = y14.table)) == false)) (vB (!decide (y13.as_ = y14.as_))))), (129, (.ite (true && ((!decide (y13.table = y14.table)) == false)) (vS y14.as_))), (128, (.ite (true && ((!decide (y13.table = y14.table)) == false)) (.ptr 10 1))), (127, (.ite (true && ((!decide (y13.table = y14.table)) == false)) (vS y13.as_))), (126, (.ite (true && ((!decide (y13.table = y14.table)) == false)) (.ptr 9 1)))]
   refine st 1 a27 (gp true y15 (.ptr 9 2) (fun hc => vl) (gp true y15 (.d (.sl 10 (y13.on_.map cGExpr))) (fun hc => vg hc) (gp true y15 (.ptr 10 2) (fun hc => vl) (gp true y15 (.d (.sl 10 (y14.on_.map cGExpr))) (fun hc => vg hc) ?_))))
   refine gcall_step (p := true) (b := y15) (m := F_sL7Same y13.on_ y14.on_) (dflt := default) (args := [(.d (.sl 10 (y13.on_.map cGExpr))), (.d (.sl 10 (y14.on_.map cGExpr)))]) (v' := (fun y => (vB y))) h (by kernel_rfl) (OK_sL7Same y13.on_ y14.on_) (fun hc => by kernel_rfl) (by kernel_rfl) (fun _ => rfl) (fun hc => (Eq.trans (b := ([(true && (y15 == false)), (true && (y15 == false))] : List Bool).all id) (by kernel_rfl) (all_c hc (all_c hc rfl)))) ?_
   clear h; intro y16 h
   refine gp true y15 (vB (!y16)) (fun hc => vg hc) (vs (fun (y : Bool) => (vB y)) h (fun y hy => vop_pickV hy (p := true) (q := (true && (y15 == false))) (by kernel_rfl) (by kernel_rfl) (by kernel_rfl) (by kernel_rfl) (fun _ => rfl) (fun hb => gc_f rfl hb)) fun y17 h => (nx ?_))
   refine cd h (fun h => ?_) fun h => ?_
   refine so ?_
   let a28 : St := a27.p [(4, (vB false)), (139, (vB y17)), (138, (.ite (gF y15) (vB (!y16)))), (137, (.ite (gF y15) (vB y16))), (136, (.ite (gF y15) (.d (.sl 10 (y14.on_.map cGExpr))))), (135, (.ite (gF y15) (.ptr 10 2))), (134, (.ite (gF y15) (.d (.sl 10 (y13.on_.map cGExpr))))), (133, (.ite (gF y15) (.ptr 9 2)))]
   refine st 1 a28 (nx (ri (br (tr (tr (br (tr ?_)))))))
   injection h with h; subst h
   exact r1 (v := (vB false))
   refine ki (bn (xi (oi ?_)))
   let a29 : St := a27.p [(8, (vI (IntKind.wrap .i64 (x8 + 1)))), (109, (vI (IntKind.wrap .i64 (x8 + 1)))), (108, (vI x8)), (139, (vB y17)), (138, (.ite (gF y15) (vB (!y16)))), (137, (.ite (gF y15) (vB y16))), (136, (.ite (gF y15) (.d (.sl 10 (y14.on_.map cGExpr))))), (135, (.ite (gF y15) (.ptr 10 2))), (134, (.ite (gF y15) (.d (.sl 10 (y13.on_.map cGExpr))))), (133, (.ite (gF y15) (.ptr 9 2)))]
   exact st 3 a29 (ni (loop_back (s' := stsSameQuery_L1 p0 p1 (IntKind.wrap .i64 (x8 + 1))) (wr [] (es (es (es er_nil))) (bs_ (bs_ br_nil))) (OK_sSameQuery_L1 p0 p1 (IntKind.wrap .i64 (x8 + 1)) _ h)))
   refine ei (te (te (bh (xi (si (so ?_))))))
   let a30 : St := a21.p [(11, (vI 0))]
   exact st 1 a30 (nx (bi (loop_go (s' := stsSameQuery_L2 p0 p1 0) (wr [] (es (es (es er_nil))) (bs_ (bs_ br_nil))) (OK_sSameQuery_L2 p0 p1 0 _ h))))
 · intro F_sL7Same_L0 OK_sL7Same_L0 p0 p1 r h
   refine aof trsL7Same ?_
   show avc Tryz.prog acsL7Same (qsL7Same _) ⟨[(0, (.d (.sl 10 (p0.map cGExpr)))), (1, (.d (.sl 10 (p1.map cGExpr))))], []⟩
   delta acsL7Same
   refine so ?_
   let a0 : St := ⟨[(4, (vB false)), (0, (.d (.sl 10 (p0.map cGExpr)))), (1, (.d (.sl 10 (p1.map cGExpr))))], []⟩
   refine st 1 a0 (nx (si (so ?_)))
   let a1 : St := a0.p [(6, (.d (.sl 10 (p0.map cGExpr))))]
   refine st 1 a1 (ps (vI (ln p0)) (vln (sz := 10) (l := p0) (f := cGExpr)) ?_)
   let a2 : St := a1.p [(8, (.d (.sl 10 (p1.map cGExpr)))), (7, (vI (ln p0)))]
   refine st 1 a2 (ps (vI (ln p1)) (vln (sz := 10) (l := p1) (f := cGExpr)) ?_)
   let a3 : St := a2.p [(10, (vB (!decide ((ln p0) = (ln p1))))), (9, (vI (ln p1)))]
   refine st 1 a3 (nx ?_)
   refine cd h (fun h => ?_) fun h => ?_
   refine so ?_
   let a4 : St := a3.p [(4, (vB false))]
   refine st 1 a4 (nx (ri (tr ?_)))
   injection h with h; subst h
   exact r1 (v := (vB false))
   refine ki (xi (si (so ?_)))
   let a5 : St := a3.p [(5, (vI 0))]
   exact st 1 a5 (nx (bi (loop_go (s' := stsL7Same_L0 p0 p1 0) (wr [] (es (es (es er_nil))) br_nil) (OK_sL7Same_L0 p0 p1 0 _ h))))
 · intro F_sSameExpr F_sL7Same_L0 OK_sSameExpr OK_sL7Same_L0 p0 p1 x5 r h
   delta acsL7Same_L0
   refine loop_unroll (si (so ?_))
   let a6 : St := (stsL7Same_L0 p0 p1 x5).p [(12, (.d (.sl 10 (p0.map cGExpr)))), (11, (vI x5))]
   refine st 2 a6 (ps (vI (ln p0)) (vln (sz := 10) (l := p0) (f := cGExpr)) ?_)
   let a7 : St := a6.p [(14, (vB (decide (x5 < (ln p0))))), (13, (vI (ln p0)))]
   refine st 1 a7 (nx ?_)
   refine cd h (fun h => ?_) fun h => ?_
   refine ki (xi (si (bi (si (dops_in ?_)))))
   let a8 : St := a7.p [(18, (vI x5)), (17, (.d (.sl 10 (p0.map cGExpr))))]
   refine dsts_ok 2 (s' := a8) (by kernel_rfl) (dv_step (m := idx p0 x5) (v' := fun y => (.rp (oGExpr y))) h rfl rfl (fun y hy => via (l := p0) (f := cGExpr) (g := oGExpr) (k := .i64) hy cGExpr_eq) ?_)
   clear h; intro y1 h
   let a9 : St := a8.p [(22, (vI x5)), (21, (.d (.sl 10 (p1.map cGExpr)))), (20, (vGExpr y1)), (19, (.rp (oGExpr y1)))]
   refine dsts_ok 3 (s' := a9) (by kernel_rfl) (dv_step (m := idx p1 x5) (v' := fun y => (.rp (oGExpr y))) h rfl rfl (fun y hy => via (l := p1) (f := cGExpr) (g := oGExpr) (k := .i64) hy cGExpr_eq) ?_)
   clear h; intro y2 h
   let a10 : St := a9.p [(24, (vGExpr y2)), (23, (.rp (oGExpr y2)))]
   refine dsts_ok 1 (s' := a10) (by kernel_rfl) (dcall_step (m := F_sSameExpr y1 y2) (args := [(vGExpr y1), (vGExpr y2)]) (v' := (fun y => (vB y))) h (OK_sSameExpr y1 y2) (by kernel_rfl) (by kernel_rfl) (fun _ => rfl) ?_)
   clear h; intro y3 h
   let a11 : St := a10.p [(26, (vB (!y3))), (25, (vB y3))]
   refine dsts_ok 1 (s' := a11) (by kernel_rfl) (dnil_in (by kernel_rfl) (by kernel_rfl) (xi ?_))
   refine cd h (fun h => ?_) fun h => ?_
   refine so ?_
   let a12 : St := a11.p [(4, (vB false))]
   refine st 1 a12 (nx (ri (br (tr (tr (br (tr ?_)))))))
   injection h with h; subst h
   exact r1 (v := (vB false))
   refine ki (bn (xi (oi ?_)))
   let a13 : St := a11.p [(5, (vI (IntKind.wrap .i64 (x5 + 1)))), (16, (vI (IntKind.wrap .i64 (x5 + 1)))), (15, (vI x5))]
   exact st 3 a13 (ni (loop_back (s' := stsL7Same_L0 p0 p1 (IntKind.wrap .i64 (x5 + 1))) (wr [] (es (es (es er_nil))) br_nil) (OK_sL7Same_L0 p0 p1 (IntKind.wrap .i64 (x5 + 1)) _ h)))
   refine ei (te (te (bh (xi (so ?_)))))
   let a14 : St := a7.p [(4, (vB true))]
   refine st 1 a14 (nx (ri ?_))
   injection h with h; subst h
   exact r1 (v := (vB true))
theorem OK_sSameQuery_L2 (p0 : GQuery) (p1 : GQuery) (x11 : Int) (r : Bool) (h : sSameQuery_L2 p0 p1 x11 = some r) : avc Tryz.prog acsSameQuery_L2 (qsSameQuery_5 r) (stsSameQuery_L2 p0 p1 x11) := (OKs_sSameQuery_L2).1 p0 p1 x11 r h
theorem OK_sSameExpr (p0 : GExpr) (p1 : GExpr) : FOk Tryz.prog 81 [(vGExpr p0), (vGExpr p1)] (fun y => (vB y)) (sSameExpr p0 p1) := fun r h => (OKs_sSameQuery_L2).2.1 p0 p1 r h
theorem OK_sSameExpr_L0 (p0 : GExpr) (p1 : GExpr) (x5 : Int) (r : Bool) (h : sSameExpr_L0 p0 p1 x5 = some r) : avc Tryz.prog acsSameExpr_L0 (qsSameExpr_1 r) (stsSameExpr_L0 p0 p1 x5) := (OKs_sSameQuery_L2).2.2.1 p0 p1 x5 r h
theorem OK_sSameQuery (p0 : GQuery) (p1 : GQuery) : FOk Tryz.prog 40 [(vGQuery p0), (vGQuery p1)] (fun y => (vB y)) (sSameQuery p0 p1) := fun r h => (OKs_sSameQuery_L2).2.2.2.1 p0 p1 r h
theorem OK_sSameQuery_L0 (p0 : GQuery) (p1 : GQuery) (x5 : Int) (r : Bool) (h : sSameQuery_L0 p0 p1 x5 = some r) : avc Tryz.prog acsSameQuery_L0 (qsSameQuery_1 r) (stsSameQuery_L0 p0 p1 x5) := (OKs_sSameQuery_L2).2.2.2.2.1 p0 p1 x5 r h
theorem OK_sSameQuery_L1 (p0 : GQuery) (p1 : GQuery) (x8 : Int) (r : Bool) (h : sSameQuery_L1 p0 p1 x8 = some r) : avc Tryz.prog acsSameQuery_L1 (qsSameQuery_3 r) (stsSameQuery_L1 p0 p1 x8) := (OKs_sSameQuery_L2).2.2.2.2.2.1 p0 p1 x8 r h
theorem OK_sL7Same (p0 : (List GExpr)) (p1 : (List GExpr)) : FOk Tryz.prog 80 [(.d (.sl 10 (p0.map cGExpr))), (.d (.sl 10 (p1.map cGExpr)))] (fun y => (vB y)) (sL7Same p0 p1) := fun r h => (OKs_sSameQuery_L2).2.2.2.2.2.2.1 p0 p1 r h
theorem OK_sL7Same_L0 (p0 : (List GExpr)) (p1 : (List GExpr)) (x5 : Int) (r : Bool) (h : sL7Same_L0 p0 p1 x5 = some r) : avc Tryz.prog acsL7Same_L0 (qsL7Same_1 r) (stsL7Same_L0 p0 p1 x5) := (OKs_sSameQuery_L2).2.2.2.2.2.2.2 p0 p1 x5 r h
theorem OK_sValueOk (p0 : GValue) : FOk Tryz.prog 115 [(vGValue p0)] (fun y => (vB y)) (sValueOk p0) := by
 intro r h
 rw [sValueOk] at h
 refine aof trsValueOk ?_
 show avc Tryz.prog acsValueOk (qsValueOk _) ⟨[(0, (vGValue p0))], []⟩
 delta acsValueOk
 refine so ?_
 let a0 : St := ⟨[(2, (vB false)), (1, (.ptr 1 0)), (0, (vGValue p0))], [(1, bGValue p0)]⟩
 refine st 2 a0 (nx (si (so ?_)))
 let a1 : St := a0.p [(4, (vI p0.kind)), (3, (.ptr 1 0))]
 refine st 2 a1 (nx (bi (so ?_)))
 let a2 : St := a1.p [(5, (vB (decide (p0.kind = 0)))), (6, (vB (decide (p0.kind = 0))))]
 refine st 2 a2 (nx ?_)
 refine cd h (fun h => ?_) fun h => ?_
 refine so ?_
 let a3 : St := a2.p [(10, (vB (decide (p0.num = 0)))), (9, (vB (decide (p0.num = 0)))), (8, (vI p0.num)), (7, (.ptr 1 1))]
 refine st 4 a3 (gp true (decide (p0.num = 0)) (.ptr 1 2) (fun hc => vl) (gp true (decide (p0.num = 0)) (vS p0.text) (fun hc => vg hc) (gp true (decide (p0.num = 0)) (vB (decide (p0.text = []))) (fun hc => vg hc) ?_)))
 refine vs (fun (y : Bool) => (vB y)) h (fun y hy => vop_pickV hy (p := (true && ((decide (p0.num = 0)) == true))) (q := true) (by kernel_rfl) (by kernel_rfl) (by kernel_rfl) (by kernel_rfl) (fun hb => gc_t rfl hb) (fun _ => rfl)) fun y1 h => ?_
 let a4 : St := a3.p [(2, (vB y1)), (14, (vB y1)), (13, (.ite (true && ((decide (p0.num = 0)) == true)) (vB (decide (p0.text = []))))), (12, (.ite (true && ((decide (p0.num = 0)) == true)) (vS p0.text))), (11, (.ite (true && ((decide (p0.num = 0)) == true)) (.ptr 1 2)))]
 refine st 1 a4 (nx (ri (br (tr ?_))))
 injection h with h; subst h
 exact r1 (v := (vB y1))
 refine so ?_
 let a5 : St := a2.p [(15, (vB (decide (p0.kind = 1)))), (16, (vB (decide (p0.kind = 1))))]
 refine st 2 a5 (nx ?_)
 refine cd h (fun h => ?_) fun h => ?_
 refine so ?_
 let a6 : St := a5.p [(2, (vB (decide (p0.text = [])))), (19, (vB (decide (p0.text = [])))), (18, (vS p0.text)), (17, (.ptr 1 2))]
 refine st 4 a6 (nx (ri (br (tr ?_))))
 injection h with h; subst h
 exact r1 (v := (vB (decide (p0.text = []))))
 refine so ?_
 let a7 : St := a5.p [(20, (vB (decide (p0.kind = 2)))), (21, (vB (decide (p0.kind = 2))))]
 refine st 2 a7 (nx ?_)
 refine cd h (fun h => ?_) fun h => ?_
 refine so ?_
 let a8 : St := a7.p [(25, (vB (decide (p0.num = 0)))), (24, (vB (decide (p0.num = 0)))), (23, (vI p0.num)), (22, (.ptr 1 1))]
 refine st 4 a8 (gp true (decide (p0.num = 0)) (.ptr 1 2) (fun hc => vl) (gp true (decide (p0.num = 0)) (vS p0.text) (fun hc => vg hc) (gp true (decide (p0.num = 0)) (vI (ln p0.text)) (fun hc => vg hc) (gp true (decide (p0.num = 0)) (vB (decide ((ln p0.text) ≤ 200))) (fun hc => vg hc) ?_))))
 refine vs (fun (y : Bool) => (vB y)) h (fun y hy => vop_pickV hy (p := (true && ((decide (p0.num = 0)) == true))) (q := true) (by kernel_rfl) (by kernel_rfl) (by kernel_rfl) (by kernel_rfl) (fun hb => gc_t rfl hb) (fun _ => rfl)) fun y2 h => ?_
 let a9 : St := a8.p [(2, (vB y2)), (30, (vB y2)), (29, (.ite (true && ((decide (p0.num = 0)) == true)) (vB (decide ((ln p0.text) ≤ 200))))), (28, (.ite (true && ((decide (p0.num = 0)) == true)) (vI (ln p0.text)))), (27, (.ite (true && ((decide (p0.num = 0)) == true)) (vS p0.text))), (26, (.ite (true && ((decide (p0.num = 0)) == true)) (.ptr 1 2)))]
 refine st 1 a9 (nx (ri (br (tr ?_))))
 injection h with h; subst h
 exact r1 (v := (vB y2))
 refine so ?_
 let a10 : St := a7.p [(31, (vB (decide (p0.kind = 3)))), (32, (vB (decide (p0.kind = 3))))]
 refine st 2 a10 (nx ?_)
 refine cd h (fun h => ?_) fun h => ?_
 refine so ?_
 let a11 : St := a10.p [(34, (vI p0.num)), (33, (.ptr 1 1))]
 refine st 2 a11 (cs h (OK_sL1In p0.num 0 1) fun y3 h => ?_)
 let a12 : St := a11.p [(36, (vB y3)), (35, (vB y3))]
 refine st 1 a12 (gp true y3 (.ptr 1 2) (fun hc => vl) (gp true y3 (vS p0.text) (fun hc => vg hc) (gp true y3 (vB (decide (p0.text = []))) (fun hc => vg hc) (vs (fun (y : Bool) => (vB y)) h (fun y hy => vop_pickV hy (p := (true && (y3 == true))) (q := true) (by kernel_rfl) (by kernel_rfl) (by kernel_rfl) (by kernel_rfl) (fun hb => gc_t rfl hb) (fun _ => rfl)) fun y4 h => ?_))))
 let a13 : St := a12.p [(2, (vB y4)), (40, (vB y4)), (39, (.ite (gT y3) (vB (decide (p0.text = []))))), (38, (.ite (gT y3) (vS p0.text))), (37, (.ite (gT y3) (.ptr 1 2)))]
 refine st 1 a13 (nx (ri (br (tr ?_))))
 injection h with h; subst h
 exact r1 (v := (vB y4))
 refine ki (bn (xi (so ?_)))
 let a14 : St := a10.p [(2, (vB false))]
 refine st 1 a14 (nx (ri ?_))
 injection h with h; subst h
 exact r1 (v := (vB false))
theorem OK_sL7Lit (p0 : GValue) : FOk Tryz.prog 114 [(vGValue p0)] (fun y => (vB y)) (sL7Lit p0) := by
 intro r h
 rw [sL7Lit] at h
 refine aof trsL7Lit ?_
 show avc Tryz.prog acsL7Lit (qsL7Lit _) ⟨[(0, (vGValue p0))], []⟩
 delta acsL7Lit
 refine so ?_
 let a0 : St := ⟨[(2, (vB false)), (1, (.ptr 1 0)), (0, (vGValue p0))], [(1, bGValue p0)]⟩
 refine st 2 a0 (nx (so ?_))
 let a1 : St := a0.p [(3, (vGValue p0))]
 refine st 1 a1 (cs h (OK_sValueOk p0) fun y1 h => ?_)
 let a2 : St := a1.p [(5, (vB y1)), (4, (vB y1))]
 refine st 1 a2 (gp true y1 (.ptr 1 0) (fun hc => vl) (gp true y1 (vI p0.kind) (fun hc => vg hc) (gp true y1 (vB (!decide (p0.kind = 1))) (fun hc => vg hc) (gp true y1 (vB (!decide (p0.kind = 1))) (fun hc => vg hc) (gp (true && (y1 == true)) (!decide (p0.kind = 1)) (.ptr 1 1) (fun hc => vl) (gp (true && (y1 == true)) (!decide (p0.kind = 1)) (vI p0.num) (fun hc => vg hc) ?_))))))
 refine gp (true && (y1 == true)) (!decide (p0.kind = 1)) (vB (decide (0 ≤ p0.num))) (fun hc => vg hc) ?_
 refine gv true y1 (fun (y : Bool) => (vB y)) h (fun y hy hc => vop_pickV hy (p := true) (q := ((true && (y1 == true)) && ((!decide (p0.kind = 1)) == false))) (Eq.trans (b := ([(true && (y1 == true))] : List Bool).all id) (by kernel_rfl) (all_c hc rfl)) (by kernel_rfl) (by kernel_rfl) (by kernel_rfl) (fun _ => rfl) (fun hb => gc_f hc hb)) fun y2 h => ?_
 refine vs (fun (y : Bool) => (vB y)) h (fun y hy => vop_pickV hy (p := (true && (y1 == true))) (q := true) (by kernel_rfl) (by kernel_rfl) (by kernel_rfl) (by kernel_rfl) (fun hb => gc_t rfl hb) (fun _ => rfl)) fun y3 h => ?_
 let a3 : St := a2.p [(15, (vB y3)), (14, (vB y3)), (13, (.ite (gT y1) (vB y2))), (12, (.ite ((gT y1) && ((!decide (p0.kind = 1)) == false)) (vB (decide (0 ≤ p0.num))))), (11, (.ite ((gT y1) && ((!decide (p0.kind = 1)) == false)) (vI p0.num))), (10, (.ite ((gT y1) && ((!decide (p0.kind = 1)) == false)) (.ptr 1 1))), (9, (.ite (gT y1) (vB (!decide (p0.kind = 1))))), (8, (.ite (gT y1) (vB (!decide (p0.kind = 1))))), (7, (.ite (gT y1) (vI p0.kind))), (6, (.ite (gT y1) (.ptr 1 0)))]
 refine st 1 a3 (gp true y3 (.ptr 1 2) (fun hc => vl) (gp true y3 (vS p0.text) (fun hc => vg hc) (gp true y3 (vI (ln p0.text)) (fun hc => vg hc) (gp true y3 (vB (decide ((ln p0.text) ≤ 40))) (fun hc => vg hc) ?_))))
 refine vs (fun (y : Bool) => (vB y)) h (fun y hy => vop_pickV hy (p := (true && (y3 == true))) (q := true) (by kernel_rfl) (by kernel_rfl) (by kernel_rfl) (by kernel_rfl) (fun hb => gc_t rfl hb) (fun _ => rfl)) fun y4 h => ?_
 let a4 : St := a3.p [(2, (vB y4)), (20, (vB y4)), (19, (.ite (gT y3) (vB (decide ((ln p0.text) ≤ 40))))), (18, (.ite (gT y3) (vI (ln p0.text)))), (17, (.ite (gT y3) (vS p0.text))), (16, (.ite (gT y3) (.ptr 1 2)))]
 refine st 1 a4 (nx (ri ?_))
 injection h with h; subst h
 exact r1 (v := (vB y4))
theorem OK_sL7Shape (p0 : GExpr) : FOk Tryz.prog 112 [(vGExpr p0)] (fun y => (vB y)) (sL7Shape p0) := by
 intro r h
 rw [sL7Shape] at h
 refine aof trsL7Shape ?_
 show avc Tryz.prog acsL7Shape (qsL7Shape _) ⟨[(0, (vGExpr p0))], []⟩
 delta acsL7Shape
 refine so ?_
 let a0 : St := ⟨[(2, (vB false)), (1, (.ptr 1 0)), (0, (vGExpr p0))], [(1, bGExpr p0)]⟩
 refine st 2 a0 (nx (so ?_))
 let a1 : St := a0.p [(6, (.d (.sl 10 (p0.kids.map cGExpr)))), (5, (.ptr 1 8))]
 refine st 2 a1 (ps (vI (ln p0.kids)) (vln (sz := 10) (l := p0.kids) (f := cGExpr)) ?_)
 let a2 : St := a1.p [(3, (vI (ln p0.kids))), (7, (vI (ln p0.kids)))]
 refine st 1 a2 (nx (so ?_))
 let a3 : St := a2.p [(9, (.d (.sl 6 (p0.sub.map cGQuery)))), (8, (.ptr 1 9))]
 refine st 2 a3 (ps (vI (ln p0.sub)) (vln (sz := 6) (l := p0.sub) (f := cGQuery)) ?_)
 let a4 : St := a3.p [(4, (vI (ln p0.sub))), (10, (vI (ln p0.sub)))]
 refine st 1 a4 (nx (si (so ?_)))
 let a5 : St := a4.p [(14, (vB (!decide (p0.kind = 2)))), (13, (vB (!decide (p0.kind = 2)))), (12, (vI p0.kind)), (11, (.ptr 1 0))]
 refine st 4 a5 (gp true (!decide (p0.kind = 2)) (.ptr 1 6) (fun hc => vl) (gp true (!decide (p0.kind = 2)) (vS p0.qual) (fun hc => vg hc) (gp true (!decide (p0.kind = 2)) (vB (!decide (p0.qual = []))) (fun hc => vg hc) (gp true (!decide (p0.kind = 2)) (vB (!decide (p0.qual = []))) (fun hc => vg hc) (gp (true && ((!decide (p0.kind = 2)) == true)) (!decide (p0.qual = [])) (.ptr 1 7) (fun hc => vl) ?_)))))
 refine gp (true && ((!decide (p0.kind = 2)) == true)) (!decide (p0.qual = [])) (vS p0.name) (fun hc => vop_val1 (Eq.trans (b := ([((true && ((!decide (p0.kind = 2)) == true)) && ((!decide (p0.qual = [])) == false))] : List Bool).all id) (by kernel_rfl) (all_c hc rfl)) (by kernel_rfl)) ?_
 refine gp (true && ((!decide (p0.kind = 2)) == true)) (!decide (p0.qual = [])) (vB (!decide (p0.name = []))) (fun hc => vop_val1 (Eq.trans (b := ([((true && ((!decide (p0.kind = 2)) == true)) && ((!decide (p0.qual = [])) == false))] : List Bool).all id) (by kernel_rfl) (all_c hc rfl)) (by kernel_rfl)) ?_
 refine gv true (!decide (p0.kind = 2)) (fun (y : Bool) => (vB y)) h (fun y hy hc => vop_pickV hy (p := true) (q := ((true && ((!decide (p0.kind = 2)) == true)) && ((!decide (p0.qual = [])) == false))) (Eq.trans (b := ([(true && ((!decide (p0.kind = 2)) == true))] : List Bool).all id) (by kernel_rfl) (all_c hc rfl)) (by kernel_rfl) (by kernel_rfl) (by kernel_rfl) (fun _ => rfl) (fun hb => gc_f hc hb)) fun y1 h => ?_
 refine vs (fun (y : Bool) => (vB y)) h (fun y hy => vop_pickV hy (p := (true && ((!decide (p0.kind = 2)) == true))) (q := true) (by kernel_rfl) (by kernel_rfl) (by kernel_rfl) (by kernel_rfl) (fun hb => gc_t rfl hb) (fun _ => rfl)) fun y2 h => ?_
 let a6 : St := a5.p [(24, (vB y2)), (23, (vB y2)), (22, (.ite (true && ((!decide (p0.kind = 2)) == true)) (vB y1))), (21, (.ite ((true && ((!decide (p0.kind = 2)) == true)) && ((!decide (p0.qual = [])) == false)) (vB (!decide (p0.name = []))))), (20, (.ite ((true && ((!decide (p0.kind = 2)) == true)) && ((!decide (p0.qual = [])) == false)) (vS p0.name))), (19, (.ite ((true && ((!decide (p0.kind = 2)) == true)) && ((!decide (p0.qual = [])) == false)) (.ptr 1 7))), (18, (.ite (true && ((!decide (p0.kind = 2)) == true)) (vB (!decide (p0.qual = []))))), (17, (.ite (true && ((!decide (p0.kind = 2)) == true)) (vB (!decide (p0.qual = []))))), (16, (.ite (true && ((!decide (p0.kind = 2)) == true)) (vS p0.qual))), (15, (.ite (true && ((!decide (p0.kind = 2)) == true)) (.ptr 1 6)))]
 refine st 1 a6 (gp true y2 (.ptr 1 0) (fun hc => vl) (gp true y2 (vI p0.kind) (fun hc => vg hc) (gp true y2 (vB (!decide (p0.kind = 1))) (fun hc => vg hc) (gp true y2 (vB (!decide (p0.kind = 1))) (fun hc => vg hc) (gp (true && (y2 == false)) (!decide (p0.kind = 1)) (.ptr 1 3) (fun hc => vl) (gp (true && (y2 == false)) (!decide (p0.kind = 1)) (vGValue p0.value) (fun hc => vg hc) ?_))))))
 refine gp (true && (y2 == false)) (!decide (p0.kind = 1)) (vGValue (GValue.mk 0 0 [])) (fun hc => vl) ?_
 refine gp (true && (y2 == false)) (!decide (p0.kind = 1)) (vB (!((decide (p0.value.kind = 0)) && ((decide (p0.value.num = 0)) && ((decide (p0.value.text = [])) && true))))) (fun hc => vop_val1 (Eq.trans (b := ([((true && (y2 == false)) && ((!decide (p0.kind = 1)) == true)), ((true && (y2 == false)) && ((!decide (p0.kind = 1)) == true))] : List Bool).all id) (by kernel_rfl) (all_c hc (all_c hc rfl))) (by kernel_rfl)) ?_
 refine gv true y2 (fun (y : Bool) => (vB y)) h (fun y hy hc => vop_pickV hy (p := ((true && (y2 == false)) && ((!decide (p0.kind = 1)) == true))) (q := true) (Eq.trans (b := ([(true && (y2 == false))] : List Bool).all id) (by kernel_rfl) (all_c hc rfl)) (by kernel_rfl) (by kernel_rfl) (by kernel_rfl) (fun hb => gc_t hc hb) (fun _ => rfl)) fun y3 h => ?_
 refine vs (fun (y : Bool) => (vB y)) h (fun y hy => vop_pickV hy (p := true) (q := (true && (y2 == false))) (by kernel_rfl) (by kernel_rfl) (by kernel_rfl) (by kernel_rfl) (fun _ => rfl) (fun hb => gc_f rfl hb)) fun y4 h => (nx ?_)
 refine cd h (fun h => ?_) fun h => ?_
 refine so ?_
 let a7 : St := a6.p [(2, (vB false)), (34, (vB y4)), (33, (.ite (gF y2) (vB y3))), (32, (.ite ((gF y2) && ((!decide (p0.kind = 1)) == true)) (vB (!((decide (p0.value.kind = 0)) && ((decide (p0.value.num = 0)) && ((decide (p0.value.text = [])) && true))))))), (31, (.ite ((gF y2) && ((!decide (p0.kind = 1)) == true)) (vGValue (GValue.mk 0 0 [])))), (30, (.ite ((gF y2) && ((!decide (p0.kind = 1)) == true)) (vGValue p0.value))), (29, (.ite ((gF y2) && ((!decide (p0.kind = 1)) == true)) (.ptr 1 3))), (28, (.ite (gF y2) (vB (!decide (p0.kind = 1))))), (27, (.ite (gF y2) (vB (!decide (p0.kind = 1))))), (26, (.ite (gF y2) (vI p0.kind))), (25, (.ite (gF y2) (.ptr 1 0)))]
 refine st 1 a7 (nx (ri (tr ?_)))
 injection h with h; subst h
 exact r1 (v := (vB false))
 refine ki (xi (si (so ?_)))
 let a8 : St := a6.p [(38, (vB (!decide (p0.kind = 3)))), (37, (vB (!decide (p0.kind = 3)))), (36, (vI p0.kind)), (35, (.ptr 1 0)), (34, (vB y4)), (33, (.ite (gF y2) (vB y3))), (32, (.ite ((gF y2) && ((!decide (p0.kind = 1)) == true)) (vB (!((decide (p0.value.kind = 0)) && ((decide (p0.value.num = 0)) && ((decide (p0.value.text = [])) && true))))))), (31, (.ite ((gF y2) && ((!decide (p0.kind = 1)) == true)) (vGValue (GValue.mk 0 0 [])))), (30, (.ite ((gF y2) && ((!decide (p0.kind = 1)) == true)) (vGValue p0.value))), (29, (.ite ((gF y2) && ((!decide (p0.kind = 1)) == true)) (.ptr 1 3))), (28, (.ite (gF y2) (vB (!decide (p0.kind = 1))))), (27, (.ite (gF y2) (vB (!decide (p0.kind = 1))))), (26, (.ite (gF y2) (vI p0.kind))), (25, (.ite (gF y2) (.ptr 1 0)))]
 refine st 4 a8 (gp true (!decide (p0.kind = 3)) (.ptr 1 0) (fun hc => vl) (gp true (!decide (p0.kind = 3)) (vI p0.kind) (fun hc => vg hc) (gp true (!decide (p0.kind = 3)) (vB (!decide (p0.kind = 4))) (fun hc => vg hc) ?_)))
 refine vs (fun (y : Bool) => (vB y)) h (fun y hy => vop_pickV hy (p := (true && ((!decide (p0.kind = 3)) == true))) (q := true) (by kernel_rfl) (by kernel_rfl) (by kernel_rfl) (by kernel_rfl) (fun hb => gc_t rfl hb) (fun _ => rfl)) fun y5 h => ?_
 let a9 : St := a8.p [(43, (vB y5)), (42, (vB y5)), (41, (.ite (true && ((!decide (p0.kind = 3)) == true)) (vB (!decide (p0.kind = 4))))), (40, (.ite (true && ((!decide (p0.kind = 3)) == true)) (vI p0.kind))), (39, (.ite (true && ((!decide (p0.kind = 3)) == true)) (.ptr 1 0)))]
 refine st 1 a9 (gp true y5 (.ptr 1 1) (fun hc => vl) (gp true y5 (vI p0.op) (fun hc => vg hc) (gp true y5 (vB (!decide (p0.op = 0))) (fun hc => vg hc) (vs (fun (y : Bool) => (vB y)) h (fun y hy => vop_pickV hy (p := (true && (y5 == true))) (q := true) (by kernel_rfl) (by kernel_rfl) (by kernel_rfl) (by kernel_rfl) (fun hb => gc_t rfl hb) (fun _ => rfl)) fun y6 h => ?_))))
 let a10 : St := a9.p [(48, (vB y6)), (47, (vB y6)), (46, (.ite (gT y5) (vB (!decide (p0.op = 0))))), (45, (.ite (gT y5) (vI p0.op))), (44, (.ite (gT y5) (.ptr 1 1)))]
 refine st 1 a10 (gp true y6 (.ptr 1 2) (fun hc => vl) (gp true y6 (vB p0.not_) (fun hc => vg hc) (gp true y6 (vB p0.not_) (fun hc => vg hc) (gp (true && (y6 == false)) p0.not_ (.ptr 1 0) (fun hc => vl) (gp (true && (y6 == false)) p0.not_ (vI p0.kind) (fun hc => vg hc) ?_)))))
 refine gcall_step (p := (true && (y6 == false))) (b := p0.not_) (m := sL1In p0.kind 5 8) (dflt := default) (args := [(vI p0.kind), (vI 5), (vI 8)]) (v' := (fun y => (vB y))) h (by kernel_rfl) (OK_sL1In p0.kind 5 8) (fun hc => by kernel_rfl) (by kernel_rfl) (fun _ => rfl) (fun hc => (Eq.trans (b := ([((true && (y6 == false)) && (p0.not_ == true))] : List Bool).all id) (by kernel_rfl) (all_c hc rfl))) ?_
 clear h; intro y7 h
 refine gp (true && (y6 == false)) p0.not_ (vB (!y7)) (fun hc => vg hc) (gv true y6 (fun (y : Bool) => (vB y)) h (fun y hy hc => vop_pickV hy (p := ((true && (y6 == false)) && (p0.not_ == true))) (q := true) (Eq.trans (b := ([(true && (y6 == false))] : List Bool).all id) (by kernel_rfl) (all_c hc rfl)) (by kernel_rfl) (by kernel_rfl) (by kernel_rfl) (fun hb => gc_t hc hb) (fun _ => rfl)) fun y8 h => ?_)
 refine vs (fun (y : Bool) => (vB y)) h (fun y hy => vop_pickV hy (p := true) (q := (true && (y6 == false))) (by kernel_rfl) (by kernel_rfl) (by kernel_rfl) (by kernel_rfl) (fun _ => rfl) (fun hb => gc_f rfl hb)) fun y9 h => (nx ?_)
 refine cd h (fun h => ?_) fun h => ?_
 refine so ?_
 let a11 : St := a10.p [(2, (vB false)), (57, (vB y9)), (56, (.ite (gF y6) (vB y8))), (55, (.ite ((gF y6) && (p0.not_ == true)) (vB (!y7)))), (54, (.ite ((gF y6) && (p0.not_ == true)) (vB y7))), (53, (.ite ((gF y6) && (p0.not_ == true)) (vI p0.kind))), (52, (.ite ((gF y6) && (p0.not_ == true)) (.ptr 1 0))), (51, (.ite (gF y6) (vB p0.not_))), (50, (.ite (gF y6) (vB p0.not_))), (49, (.ite (gF y6) (.ptr 1 2)))]
 refine st 1 a11 (nx (ri (tr ?_)))
 injection h with h; subst h
 exact r1 (v := (vB false))
 refine ki (xi (si (so ?_)))
 let a12 : St := a10.p [(59, (vI p0.kind)), (58, (.ptr 1 0)), (57, (vB y9)), (56, (.ite (gF y6) (vB y8))), (55, (.ite ((gF y6) && (p0.not_ == true)) (vB (!y7)))), (54, (.ite ((gF y6) && (p0.not_ == true)) (vB y7))), (53, (.ite ((gF y6) && (p0.not_ == true)) (vI p0.kind))), (52, (.ite ((gF y6) && (p0.not_ == true)) (.ptr 1 0))), (51, (.ite (gF y6) (vB p0.not_))), (50, (.ite (gF y6) (vB p0.not_))), (49, (.ite (gF y6) (.ptr 1 2)))]
 refine st 2 a12 (nx (bi (so ?_)))
 let a13 : St := a12.p [(60, (vB (decide (p0.kind = 1)))), (61, (vB (decide (p0.kind = 1))))]
 refine st 2 a13 (nx ?_)
 refine cd h (fun h => ?_) fun h => ?_
 refine so ?_
 let a14 : St := a13.p [(63, (vGValue p0.value)), (62, (.ptr 1 3))]
 refine st 2 a14 (cs h (OK_sL7Lit p0.value) fun y10 h => ?_)
 let a15 : St := a14.p [(65, (vB y10)), (64, (vB y10))]
 refine st 1 a15 (gp true y10 (vI (ln p0.kids)) (fun hc => vl) (gp true y10 (vI (ln p0.sub)) (fun hc => vl) (gp true y10 (vI (IntKind.wrap .i64 ((ln p0.kids) + (ln p0.sub)))) (fun hc => vop_val1 (Eq.trans (b := ([(true && (y10 == true)), (true && (y10 == true))] : List Bool).all id) (by kernel_rfl) (all_c hc (all_c hc rfl))) (by kernel_rfl)) ?_)))
 refine gp true y10 (vB (decide ((IntKind.wrap .i64 ((ln p0.kids) + (ln p0.sub))) = 0))) (fun hc => vg hc) (vs (fun (y : Bool) => (vB y)) h (fun y hy => vop_pickV hy (p := (true && (y10 == true))) (q := true) (by kernel_rfl) (by kernel_rfl) (by kernel_rfl) (by kernel_rfl) (fun hb => gc_t rfl hb) (fun _ => rfl)) fun y11 h => ?_)
 let a16 : St := a15.p [(2, (vB y11)), (70, (vB y11)), (69, (.ite (gT y10) (vB (decide ((IntKind.wrap .i64 ((ln p0.kids) + (ln p0.sub))) = 0))))), (68, (.ite (gT y10) (vI (IntKind.wrap .i64 ((ln p0.kids) + (ln p0.sub)))))), (67, (.ite (gT y10) (vI (ln p0.sub)))), (66, (.ite (gT y10) (vI (ln p0.kids))))]
 refine st 1 a16 (nx (ri (br (tr ?_))))
 injection h with h; subst h
 exact r1 (v := (vB y11))
 refine so ?_
 let a17 : St := a13.p [(71, (vB (decide (p0.kind = 2)))), (72, (vB (decide (p0.kind = 2))))]
 refine st 2 a17 (nx ?_)
 refine cd h (fun h => ?_) fun h => ?_
 refine so ?_
 let a18 : St := a17.p [(74, (vS p0.name)), (73, (.ptr 1 7))]
 refine st 2 a18 (cs h (OK_sNameOk p0.name) fun y12 h => ?_)
 let a19 : St := a18.p [(76, (vB y12)), (75, (vB y12))]
 refine st 1 a19 (gp true y12 (.ptr 1 6) (fun hc => vl) (gp true y12 (vS p0.qual) (fun hc => vg hc) ?_))
 refine gcall_step (p := true) (b := y12) (m := sL7Maybe p0.qual) (dflt := default) (args := [(vS p0.qual)]) (v' := (fun y => (vB y))) h (by kernel_rfl) (OK_sL7Maybe p0.qual) (fun hc => by kernel_rfl) (by kernel_rfl) (fun _ => rfl) (fun hc => (Eq.trans (b := ([(true && (y12 == true))] : List Bool).all id) (by kernel_rfl) (all_c hc rfl))) ?_
 clear h; intro y13 h
 refine vs (fun (y : Bool) => (vB y)) h (fun y hy => vop_pickV hy (p := (true && (y12 == true))) (q := true) (by kernel_rfl) (by kernel_rfl) (by kernel_rfl) (by kernel_rfl) (fun hb => gc_t rfl hb) (fun _ => rfl)) fun y14 h => ?_
 let a20 : St := a19.p [(81, (vB y14)), (80, (vB y14)), (79, (.ite (gT y12) (vB y13))), (78, (.ite (gT y12) (vS p0.qual))), (77, (.ite (gT y12) (.ptr 1 6)))]
 refine st 1 a20 (gp true y14 (vI (ln p0.kids)) (fun hc => vl) (gp true y14 (vI (ln p0.sub)) (fun hc => vl) (gp true y14 (vI (IntKind.wrap .i64 ((ln p0.kids) + (ln p0.sub)))) (fun hc => vop_val1 (Eq.trans (b := ([(true && (y14 == true)), (true && (y14 == true))] : List Bool).all id) (by kernel_rfl) (all_c hc (all_c hc rfl))) (by kernel_rfl)) ?_)))
 refine gp true y14 (vB (decide ((IntKind.wrap .i64 ((ln p0.kids) + (ln p0.sub))) = 0))) (fun hc => vg hc) (vs (fun (y : Bool) => (vB y)) h (fun y hy => vop_pickV hy (p := (true && (y14 == true))) (q := true) (by kernel_rfl) (by kernel_rfl) (by kernel_rfl) (by kernel_rfl) (fun hb => gc_t rfl hb) (fun _ => rfl)) fun y15 h => ?_)
 let a21 : St := a20.p [(2, (vB y15)), (86, (vB y15)), (85, (.ite (gT y14) (vB (decide ((IntKind.wrap .i64 ((ln p0.kids) + (ln p0.sub))) = 0))))), (84, (.ite (gT y14) (vI (IntKind.wrap .i64 ((ln p0.kids) + (ln p0.sub)))))), (83, (.ite (gT y14) (vI (ln p0.sub)))), (82, (.ite (gT y14) (vI (ln p0.kids))))]
 refine st 1 a21 (nx (ri (br (tr ?_))))
 injection h with h; subst h
 exact r1 (v := (vB y15))
 refine so ?_
 let a22 : St := a17.p [(87, (vB (decide (p0.kind = 3)))), (88, (vB (decide (p0.kind = 3))))]
 refine st 2 a22 (nx ?_)
 refine cd h (fun h => ?_) fun h => ?_
 refine so ?_
 let a23 : St := a22.p [(92, (vB (decide (p0.op = 15)))), (91, (vB (decide (p0.op = 15)))), (90, (vI p0.op)), (89, (.ptr 1 1))]
 refine st 4 a23 (gp true (decide (p0.op = 15)) (.ptr 1 1) (fun hc => vl) (gp true (decide (p0.op = 15)) (vI p0.op) (fun hc => vg hc) (gp true (decide (p0.op = 15)) (vB (decide (p0.op = 16))) (fun hc => vg hc) ?_)))
 refine vs (fun (y : Bool) => (vB y)) h (fun y hy => vop_pickV hy (p := true) (q := (true && ((decide (p0.op = 15)) == false))) (by kernel_rfl) (by kernel_rfl) (by kernel_rfl) (by kernel_rfl) (fun _ => rfl) (fun hb => gc_f rfl hb)) fun y16 h => ?_
 let a24 : St := a23.p [(97, (vB y16)), (96, (vB y16)), (95, (.ite (true && ((decide (p0.op = 15)) == false)) (vB (decide (p0.op = 16))))), (94, (.ite (true && ((decide (p0.op = 15)) == false)) (vI p0.op))), (93, (.ite (true && ((decide (p0.op = 15)) == false)) (.ptr 1 1)))]
 refine st 1 a24 (gp true y16 (vI (ln p0.kids)) (fun hc => vl) (gp true y16 (vB (decide ((ln p0.kids) = 1))) (fun hc => vg hc) (vs (fun (y : Bool) => (vB y)) h (fun y hy => vop_pickV hy (p := (true && (y16 == true))) (q := true) (by kernel_rfl) (by kernel_rfl) (by kernel_rfl) (by kernel_rfl) (fun hb => gc_t rfl hb) (fun _ => rfl)) fun y17 h => ?_)))
 let a25 : St := a24.p [(101, (vB y17)), (100, (vB y17)), (99, (.ite (gT y16) (vB (decide ((ln p0.kids) = 1))))), (98, (.ite (gT y16) (vI (ln p0.kids))))]
 refine st 1 a25 (gp true y17 (vI (ln p0.sub)) (fun hc => vl) (gp true y17 (vB (decide ((ln p0.sub) = 0))) (fun hc => vg hc) (vs (fun (y : Bool) => (vB y)) h (fun y hy => vop_pickV hy (p := (true && (y17 == true))) (q := true) (by kernel_rfl) (by kernel_rfl) (by kernel_rfl) (by kernel_rfl) (fun hb => gc_t rfl hb) (fun _ => rfl)) fun y18 h => ?_)))
 let a26 : St := a25.p [(2, (vB y18)), (104, (vB y18)), (103, (.ite (gT y17) (vB (decide ((ln p0.sub) = 0))))), (102, (.ite (gT y17) (vI (ln p0.sub))))]
 refine st 1 a26 (nx (ri (br (tr ?_))))
 injection h with h; subst h
 exact r1 (v := (vB y18))
 refine so ?_
 let a27 : St := a22.p [(105, (vB (decide (p0.kind = 4)))), (106, (vB (decide (p0.kind = 4))))]
 refine st 2 a27 (nx ?_)
 refine cd h (fun h => ?_) fun h => ?_
 refine so ?_
 let a28 : St := a27.p [(108, (vI p0.op)), (107, (.ptr 1 1))]
 refine st 2 a28 (cs h (OK_sL1In p0.op 1 14) fun y19 h => ?_)
 let a29 : St := a28.p [(110, (vB y19)), (109, (vB y19))]
 refine st 1 a29 (gp true y19 (vI (ln p0.kids)) (fun hc => vl) (gp true y19 (vB (decide ((ln p0.kids) = 2))) (fun hc => vg hc) (vs (fun (y : Bool) => (vB y)) h (fun y hy => vop_pickV hy (p := (true && (y19 == true))) (q := true) (by kernel_rfl) (by kernel_rfl) (by kernel_rfl) (by kernel_rfl) (fun hb => gc_t rfl hb) (fun _ => rfl)) fun y20 h => ?_)))
 let a30 : St := a29.p [(114, (vB y20)), (113, (vB y20)), (112, (.ite (gT y19) (vB (decide ((ln p0.kids) = 2))))), (111, (.ite (gT y19) (vI (ln p0.kids))))]
 refine st 1 a30 (gp true y20 (vI (ln p0.sub)) (fun hc => vl) (gp true y20 (vB (decide ((ln p0.sub) = 0))) (fun hc => vg hc) (vs (fun (y : Bool) => (vB y)) h (fun y hy => vop_pickV hy (p := (true && (y20 == true))) (q := true) (by kernel_rfl) (by kernel_rfl) (by kernel_rfl) (by kernel_rfl) (fun hb => gc_t rfl hb) (fun _ => rfl)) fun y21 h => ?_)))
 let a31 : St := a30.p [(2, (vB y21)), (117, (vB y21)), (116, (.ite (gT y20) (vB (decide ((ln p0.sub) = 0))))), (115, (.ite (gT y20) (vI (ln p0.sub))))]
 refine st 1 a31 (nx (ri (br (tr ?_))))
 injection h with h; subst h
 exact r1 (v := (vB y21))
 refine so ?_
 let a32 : St := a27.p [(118, (vB (decide (p0.kind = 5)))), (119, (vB (decide (p0.kind = 5))))]
 refine st 2 a32 (nx ?_)
 refine cd h (fun h => ?_) fun h => ?_
 refine so ?_
 let a33 : St := a32.p [(122, (vB (decide ((ln p0.kids) = 1)))), (121, (vB (decide ((ln p0.kids) = 1)))), (120, (vI (ln p0.kids)))]
 refine st 3 a33 (gp true (decide ((ln p0.kids) = 1)) (vI (ln p0.sub)) (fun hc => vl) (gp true (decide ((ln p0.kids) = 1)) (vB (decide ((ln p0.sub) = 0))) (fun hc => vg hc) ?_))
 refine vs (fun (y : Bool) => (vB y)) h (fun y hy => vop_pickV hy (p := (true && ((decide ((ln p0.kids) = 1)) == true))) (q := true) (by kernel_rfl) (by kernel_rfl) (by kernel_rfl) (by kernel_rfl) (fun hb => gc_t rfl hb) (fun _ => rfl)) fun y22 h => ?_
 let a34 : St := a33.p [(2, (vB y22)), (125, (vB y22)), (124, (.ite (true && ((decide ((ln p0.kids) = 1)) == true)) (vB (decide ((ln p0.sub) = 0))))), (123, (.ite (true && ((decide ((ln p0.kids) = 1)) == true)) (vI (ln p0.sub))))]
 refine st 1 a34 (nx (ri (br (tr ?_))))
 injection h with h; subst h
 exact r1 (v := (vB y22))
 refine so ?_
 let a35 : St := a32.p [(126, (vB (decide (p0.kind = 6)))), (127, (vB (decide (p0.kind = 6))))]
 refine st 2 a35 (nx ?_)
 refine cd h (fun h => ?_) fun h => ?_
 refine so ?_
 let a36 : St := a35.p [(130, (vB (decide ((ln p0.kids) = 3)))), (129, (vB (decide ((ln p0.kids) = 3)))), (128, (vI (ln p0.kids)))]
 refine st 3 a36 (gp true (decide ((ln p0.kids) = 3)) (vI (ln p0.sub)) (fun hc => vl) (gp true (decide ((ln p0.kids) = 3)) (vB (decide ((ln p0.sub) = 0))) (fun hc => vg hc) ?_))
 refine vs (fun (y : Bool) => (vB y)) h (fun y hy => vop_pickV hy (p := (true && ((decide ((ln p0.kids) = 3)) == true))) (q := true) (by kernel_rfl) (by kernel_rfl) (by kernel_rfl) (by kernel_rfl) (fun hb => gc_t rfl hb) (fun _ => rfl)) fun y23 h => ?_
 let a37 : St := a36.p [(2, (vB y23)), (133, (vB y23)), (132, (.ite (true && ((decide ((ln p0.kids) = 3)) == true)) (vB (decide ((ln p0.sub) = 0))))), (131, (.ite (true && ((decide ((ln p0.kids) = 3)) == true)) (vI (ln p0.sub))))]
 refine st 1 a37 (nx (ri (br (tr ?_))))
 injection h with h; subst h
 exact r1 (v := (vB y23))
 refine so ?_
 let a38 : St := a35.p [(134, (vB (decide (p0.kind = 7)))), (135, (vB (decide (p0.kind = 7))))]
 refine st 2 a38 (nx ?_)
 refine cd h (fun h => ?_) fun h => ?_
 refine so ?_
 let a39 : St := a38.p [(136, (vI (ln p0.kids)))]
 refine st 1 a39 (cs h (OK_sL1In (ln p0.kids) 2 9) fun y24 h => ?_)
 let a40 : St := a39.p [(138, (vB y24)), (137, (vB y24))]
 refine st 1 a40 (gp true y24 (vI (ln p0.sub)) (fun hc => vl) (gp true y24 (vB (decide ((ln p0.sub) = 0))) (fun hc => vg hc) (vs (fun (y : Bool) => (vB y)) h (fun y hy => vop_pickV hy (p := (true && (y24 == true))) (q := true) (by kernel_rfl) (by kernel_rfl) (by kernel_rfl) (by kernel_rfl) (fun hb => gc_t rfl hb) (fun _ => rfl)) fun y25 h => ?_)))
 let a41 : St := a40.p [(2, (vB y25)), (141, (vB y25)), (140, (.ite (gT y24) (vB (decide ((ln p0.sub) = 0))))), (139, (.ite (gT y24) (vI (ln p0.sub))))]
 refine st 1 a41 (nx (ri (br (tr ?_))))
 injection h with h; subst h
 exact r1 (v := (vB y25))
 refine so ?_
 let a42 : St := a38.p [(142, (vB (decide (p0.kind = 8)))), (143, (vB (decide (p0.kind = 8))))]
 refine st 2 a42 (nx ?_)
 refine cd h (fun h => ?_) fun h => ?_
 refine so ?_
 let a43 : St := a42.p [(146, (vB (decide ((ln p0.kids) = 1)))), (145, (vB (decide ((ln p0.kids) = 1)))), (144, (vI (ln p0.kids)))]
 refine st 3 a43 (gp true (decide ((ln p0.kids) = 1)) (vI (ln p0.sub)) (fun hc => vl) (gp true (decide ((ln p0.kids) = 1)) (vB (decide ((ln p0.sub) = 1))) (fun hc => vg hc) ?_))
 refine vs (fun (y : Bool) => (vB y)) h (fun y hy => vop_pickV hy (p := (true && ((decide ((ln p0.kids) = 1)) == true))) (q := true) (by kernel_rfl) (by kernel_rfl) (by kernel_rfl) (by kernel_rfl) (fun hb => gc_t rfl hb) (fun _ => rfl)) fun y26 h => ?_
 let a44 : St := a43.p [(2, (vB y26)), (149, (vB y26)), (148, (.ite (true && ((decide ((ln p0.kids) = 1)) == true)) (vB (decide ((ln p0.sub) = 1))))), (147, (.ite (true && ((decide ((ln p0.kids) = 1)) == true)) (vI (ln p0.sub))))]
 refine st 1 a44 (nx (ri (br (tr ?_))))
 injection h with h; subst h
 exact r1 (v := (vB y26))
 refine so ?_
 let a45 : St := a42.p [(150, (vB (decide (p0.kind = 9)))), (151, (vB (decide (p0.kind = 9))))]
 refine st 2 a45 (nx ?_)
 refine cd h (fun h => ?_) fun h => ?_
 refine so ?_
 let a46 : St := a45.p [(154, (vB (decide ((ln p0.kids) = 0)))), (153, (vB (decide ((ln p0.kids) = 0)))), (152, (vI (ln p0.kids)))]
 refine st 3 a46 (gp true (decide ((ln p0.kids) = 0)) (vI (ln p0.sub)) (fun hc => vl) (gp true (decide ((ln p0.kids) = 0)) (vB (decide ((ln p0.sub) = 1))) (fun hc => vg hc) ?_))
 refine vs (fun (y : Bool) => (vB y)) h (fun y hy => vop_pickV hy (p := (true && ((decide ((ln p0.kids) = 0)) == true))) (q := true) (by kernel_rfl) (by kernel_rfl) (by kernel_rfl) (by kernel_rfl) (fun hb => gc_t rfl hb) (fun _ => rfl)) fun y27 h => ?_
 let a47 : St := a46.p [(2, (vB y27)), (157, (vB y27)), (156, (.ite (true && ((decide ((ln p0.kids) = 0)) == true)) (vB (decide ((ln p0.sub) = 1))))), (155, (.ite (true && ((decide ((ln p0.kids) = 0)) == true)) (vI (ln p0.sub))))]
 refine st 1 a47 (nx (ri (br (tr ?_))))
 injection h with h; subst h
 exact r1 (v := (vB y27))
 refine ki (bn (xi (so ?_)))
 let a48 : St := a45.p [(2, (vB false))]
 refine st 1 a48 (nx (ri ?_))
 injection h with h; subst h
 exact r1 (v := (vB false))
theorem OKs_sL7RightQuery_L2 : (∀ (y24 : (List GExpr)) (x8 : Int) (r : Bool), sL7RightQuery_L2 y24 x8 = some r → avc Tryz.prog acsL7RightQuery_L2 (qsL7RightQuery_5 r) (stsL7RightQuery_L2 y24 x8)) ∧ (∀ (p0 : GExpr) (r : Bool), sL7Right p0 = some r → ACalls Tryz.prog 106 [(vGExpr p0)] [] fun x _ => x = (fun y => (vB y)) r) ∧ (∀ (p0 : GExpr) (x3 : Int) (r : Bool), sL7Right_L0 p0 x3 = some r → avc Tryz.prog acsL7Right_L0 (qsL7Right_1 r) (stsL7Right_L0 p0 x3)) ∧ (∀ (p0 : GQuery) (r : Bool), sL7RightQuery p0 = some r → ACalls Tryz.prog 82 [(vGQuery p0)] [] fun x _ => x = (fun y => (vB y)) r) ∧ (∀ (p0 : GQuery) (x3 : Int) (r : Bool), sL7RightQuery_L0 p0 x3 = some r → avc Tryz.prog acsL7RightQuery_L0 (qsL7RightQuery_1 r) (stsL7RightQuery_L0 p0 x3)) ∧ (∀ (p0 : GQuery) (x5 : Int) (r : Bool), sL7RightQuery_L1 p0 x5 = some r → avc Tryz.prog acsL7RightQuery_L1 (qsL7RightQuery_3 r) (stsL7RightQuery_L1 p0 x5)) := by
 refine sL7RightQuery_L2.mutual_partial_correctness (fun y24 x8 r => avc Tryz.prog acsL7RightQuery_L2 (qsL7RightQuery_5 r) (stsL7RightQuery_L2 y24 x8)) (fun p0 r => ACalls Tryz.prog 106 [(vGExpr p0)] [] fun x _ => x = (fun y => (vB y)) r) (fun p0 x3 r => avc Tryz.prog acsL7Right_L0 (qsL7Right_1 r) (stsL7Right_L0 p0 x3)) (fun p0 r => ACalls Tryz.prog 82 [(vGQuery p0)] [] fun x _ => x = (fun y => (vB y)) r) (fun p0 x3 r => avc Tryz.prog acsL7RightQuery_L0 (qsL7RightQuery_1 r) (stsL7RightQuery_L0 p0 x3)) (fun p0 x5 r => avc Tryz.prog acsL7RightQuery_L1 (qsL7RightQuery_3 r) (stsL7RightQuery_L1 p0 x5)) ?_ ?_ ?_ ?_ ?_ ?_
 · intro F_sL7RightQuery_L2 F_sL7Right OK_sL7RightQuery_L2 OK_sL7Right y24 x8 r h
   delta acsL7RightQuery_L2
   refine loop_unroll (si (so ?_))
   let a30 : St := (stsL7RightQuery_L2 y24 x8).p [(127, (.osl 7 82 10 (y24.map cGExpr))), (126, (vI x8))]
   refine st 2 a30 (ps (vI (ln y24)) (vln (sz := 10) (l := y24) (f := cGExpr)) ?_)
   let a31 : St := a30.p [(129, (vB (decide (x8 < (ln y24))))), (128, (vI (ln y24)))]
   refine st 1 a31 (nx ?_)
   refine cd h (fun h => ?_) fun h => ?_
   refine ki (xi (si (bi (so ?_))))
   let a32 : St := a31.p [(133, (vI x8)), (132, (.osl 7 82 10 (y24.map cGExpr)))]
   refine st 2 a32 (vs (fun (y : GExpr) => (.rp (oGExpr y))) h (fun y hy => via (l := y24) (f := cGExpr) (g := oGExpr) (k := .i64) hy cGExpr_eq) fun y25 h => ?_)
   let a33 : St := a32.p [(135, (vGExpr y25)), (134, (.rp (oGExpr y25)))]
   refine st 1 a33 (cs h (OK_sL7Right y25) fun y26 h => ?_)
   let a34 : St := a33.p [(137, (vB (!y26))), (136, (vB y26))]
   refine st 1 a34 (nx ?_)
   refine cd h (fun h => ?_) fun h => ?_
   refine so ?_
   let a35 : St := a34.p [(2, (vB false))]
   refine st 1 a35 (nx (ri (br (tr (tr (br (tr ?_)))))))
   injection h with h; subst h
   exact r1 (v := (vB false))
   refine ki (bn (xi (oi ?_)))
   let a36 : St := a34.p [(8, (vI (IntKind.wrap .i64 (x8 + 1)))), (131, (vI (IntKind.wrap .i64 (x8 + 1)))), (130, (vI x8))]
   exact st 3 a36 (ni (loop_back (s' := stsL7RightQuery_L2 y24 (IntKind.wrap .i64 (x8 + 1))) (wr [(7, .old 7)] (eo 7 (es er_nil)) br_nil) (OK_sL7RightQuery_L2 y24 (IntKind.wrap .i64 (x8 + 1)) _ h)))
   refine ei (te (te (bh (xi (so ?_)))))
   let a37 : St := a31.p [(2, (vB true))]
   refine st 1 a37 (nx (ri ?_))
   injection h with h; subst h
   exact r1 (v := (vB true))
 · intro F_sL7Right_L0 OK_sL7Right_L0 p0 r h
   refine aof trsL7Right ?_
   show avc Tryz.prog acsL7Right (qsL7Right _) ⟨[(0, (vGExpr p0))], []⟩
   delta acsL7Right
   refine so ?_
   let a0 : St := ⟨[(2, (vB false)), (1, (.ptr 1 0)), (0, (vGExpr p0))], [(1, bGExpr p0)]⟩
   refine st 2 a0 (nx (si (so ?_)))
   let a1 : St := a0.p [(4, (vGExpr p0))]
   refine st 1 a1 (cs h (OK_sL7Shape p0) fun y1 h => ?_)
   let a2 : St := a1.p [(6, (vB (!y1))), (5, (vB y1))]
   refine st 1 a2 (nx ?_)
   refine cd h (fun h => ?_) fun h => ?_
   refine so ?_
   let a3 : St := a2.p [(2, (vB false))]
   refine st 1 a3 (nx (ri (tr ?_)))
   injection h with h; subst h
   exact r1 (v := (vB false))
   refine ki (xi (si (so ?_)))
   let a4 : St := a2.p [(3, (vI 0))]
   exact st 1 a4 (nx (bi (loop_go (s' := stsL7Right_L0 p0 0) (wr [] (es (es er_nil)) (bs_ br_nil)) (OK_sL7Right_L0 p0 0 _ h))))
 · intro F_sL7Right F_sL7Right_L0 F_sL7RightQuery OK_sL7Right OK_sL7Right_L0 OK_sL7RightQuery p0 x3 r h
   delta acsL7Right_L0
   refine loop_unroll (si (so ?_))
   let a5 : St := (stsL7Right_L0 p0 x3).p [(9, (.d (.sl 10 (p0.kids.map cGExpr)))), (8, (.ptr 1 8)), (7, (vI x3))]
   refine st 3 a5 (ps (vI (ln p0.kids)) (vln (sz := 10) (l := p0.kids) (f := cGExpr)) ?_)
   let a6 : St := a5.p [(11, (vB (decide (x3 < (ln p0.kids))))), (10, (vI (ln p0.kids)))]
   refine st 1 a6 (nx ?_)
   refine cd h (fun h => ?_) fun h => ?_
   refine ki (xi (si (bi (so ?_))))
   let a7 : St := a6.p [(16, (vI x3)), (15, (.d (.sl 10 (p0.kids.map cGExpr)))), (14, (.ptr 1 8))]
   refine st 3 a7 (vs (fun (y : GExpr) => (.rp (oGExpr y))) h (fun y hy => via (l := p0.kids) (f := cGExpr) (g := oGExpr) (k := .i64) hy cGExpr_eq) fun y2 h => ?_)
   let a8 : St := a7.p [(18, (vGExpr y2)), (17, (.rp (oGExpr y2)))]
   refine st 1 a8 (cs h (OK_sL7Right y2) fun y3 h => ?_)
   let a9 : St := a8.p [(20, (vB (!y3))), (19, (vB y3))]
   refine st 1 a9 (nx ?_)
   refine cd h (fun h => ?_) fun h => ?_
   refine so ?_
   let a10 : St := a9.p [(2, (vB false))]
   refine st 1 a10 (nx (ri (br (tr (tr (br (tr ?_)))))))
   injection h with h; subst h
   exact r1 (v := (vB false))
   refine ki (bn (xi (oi ?_)))
   let a11 : St := a9.p [(3, (vI (IntKind.wrap .i64 (x3 + 1)))), (13, (vI (IntKind.wrap .i64 (x3 + 1)))), (12, (vI x3))]
   exact st 3 a11 (ni (loop_back (s' := stsL7Right_L0 p0 (IntKind.wrap .i64 (x3 + 1))) (wr [] (es (es er_nil)) (bs_ br_nil)) (OK_sL7Right_L0 p0 (IntKind.wrap .i64 (x3 + 1)) _ h)))
   refine ei (te (te (bh (xi (so ?_)))))
   let a12 : St := a6.p [(22, (.d (.sl 6 (p0.sub.map cGQuery)))), (21, (.ptr 1 9))]
   refine st 2 a12 (ps (vI (ln p0.sub)) (vln (sz := 6) (l := p0.sub) (f := cGQuery)) ?_)
   let a13 : St := a12.p [(25, (vB (decide ((ln p0.sub) = 0)))), (24, (vB (decide ((ln p0.sub) = 0)))), (23, (vI (ln p0.sub)))]
   refine st 2 a13 (gp true (decide ((ln p0.sub) = 0)) (.ptr 1 9) (fun hc => vl) (gp true (decide ((ln p0.sub) = 0)) (.d (.sl 6 (p0.sub.map cGQuery))) (fun hc => vg hc) ?_))
   refine gv true (decide ((ln p0.sub) = 0)) (fun (y : GQuery) => (.rp (oGQuery y))) h (fun y hy hc => vop_ia (l := p0.sub) (f := cGQuery) (g := oGQuery) (k := .i64) hy cGQuery_eq (Eq.trans (b := ([(true && ((decide ((ln p0.sub) = 0)) == false))] : List Bool).all id) (by kernel_rfl) (all_c hc rfl)) (by kernel_rfl) (by kernel_rfl)) fun y4 h => ?_
   refine gp true (decide ((ln p0.sub) = 0)) (vGQuery y4) (fun hc => vg hc) ?_
   refine gcall_step (p := true) (b := (decide ((ln p0.sub) = 0))) (m := F_sL7RightQuery y4) (dflt := default) (args := [(vGQuery y4)]) (v' := (fun y => (vB y))) h (by kernel_rfl) (OK_sL7RightQuery y4) (fun hc => by kernel_rfl) (by kernel_rfl) (fun _ => rfl) (fun hc => (Eq.trans (b := ([(true && ((decide ((ln p0.sub) = 0)) == false))] : List Bool).all id) (by kernel_rfl) (all_c hc rfl))) ?_
   clear h; intro y5 h
   refine vs (fun (y : Bool) => (vB y)) h (fun y hy => vop_pickV hy (p := true) (q := (true && ((decide ((ln p0.sub) = 0)) == false))) (by kernel_rfl) (by kernel_rfl) (by kernel_rfl) (by kernel_rfl) (fun _ => rfl) (fun hb => gc_f rfl hb)) fun y6 h => ?_
   let a14 : St := a13.p [(2, (vB y6)), (31, (vB y6)), (30, (.ite (true && ((decide ((ln p0.sub) = 0)) == false)) (vB y5))), (29, (.ite (true && ((decide ((ln p0.sub) = 0)) == false)) (vGQuery y4))), (28, (.ite (true && ((decide ((ln p0.sub) = 0)) == false)) (.rp (oGQuery y4)))), (27, (.ite (true && ((decide ((ln p0.sub) = 0)) == false)) (.d (.sl 6 (p0.sub.map cGQuery))))), (26, (.ite (true && ((decide ((ln p0.sub) = 0)) == false)) (.ptr 1 9)))]
   refine st 1 a14 (nx (ri ?_))
   injection h with h; subst h
   exact r1 (v := (vB y6))
 · intro F_sL7RightQuery_L0 OK_sL7RightQuery_L0 p0 r h
   refine aof trsL7RightQuery ?_
   show avc Tryz.prog acsL7RightQuery (qsL7RightQuery _) ⟨[(0, (vGQuery p0))], []⟩
   delta acsL7RightQuery
   refine so ?_
   let a0 : St := ⟨[(2, (vB false)), (1, (.ptr 1 0)), (0, (vGQuery p0))], [(1, bGQuery p0)]⟩
   refine st 2 a0 (nx (si (so ?_)))
   let a1 : St := a0.p [(10, (.d (.sl 13 (p0.items.map cGItem)))), (9, (.ptr 1 1))]
   refine st 2 a1 (ps (vI (ln p0.items)) (vln (sz := 13) (l := p0.items) (f := cGItem)) (cs h (OK_sL1In (ln p0.items) 1 12) fun y1 h => ?_))
   let a2 : St := a1.p [(14, (vB (!y1))), (13, (vB (!y1))), (12, (vB y1)), (11, (vI (ln p0.items)))]
   refine st 2 a2 (gp true (!y1) (.ptr 1 2) (fun hc => vl) (gp true (!y1) (.d (.sl 3 (p0.from_.map cGSource))) (fun hc => vg hc) (gp true (!y1) (vI (ln p0.from_)) (fun hc => vop_len (sz := 3) (l := p0.from_) (f := cGSource) (Eq.trans (b := ([(true && ((!y1) == false))] : List Bool).all id) (by kernel_rfl) (all_c hc rfl)) (by kernel_rfl)) ?_)))
   refine gcall_step (p := true) (b := (!y1)) (m := sL1In (ln p0.from_) 1 3) (dflt := default) (args := [(vI (ln p0.from_)), (vI 1), (vI 3)]) (v' := (fun y => (vB y))) h (by kernel_rfl) (OK_sL1In (ln p0.from_) 1 3) (fun hc => by kernel_rfl) (by kernel_rfl) (fun _ => rfl) (fun hc => (Eq.trans (b := ([(true && ((!y1) == false))] : List Bool).all id) (by kernel_rfl) (all_c hc rfl))) ?_
   clear h; intro y2 h
   refine gp true (!y1) (vB (!y2)) (fun hc => vg hc) (vs (fun (y : Bool) => (vB y)) h (fun y hy => vop_pickV hy (p := true) (q := (true && ((!y1) == false))) (by kernel_rfl) (by kernel_rfl) (by kernel_rfl) (by kernel_rfl) (fun _ => rfl) (fun hb => gc_f rfl hb)) fun y3 h => ?_)
   let a3 : St := a2.p [(21, (vB y3)), (20, (vB y3)), (19, (.ite (true && ((!y1) == false)) (vB (!y2)))), (18, (.ite (true && ((!y1) == false)) (vB y2))), (17, (.ite (true && ((!y1) == false)) (vI (ln p0.from_)))), (16, (.ite (true && ((!y1) == false)) (.d (.sl 3 (p0.from_.map cGSource))))), (15, (.ite (true && ((!y1) == false)) (.ptr 1 2)))]
   refine st 1 a3 (gp true y3 (.ptr 1 3) (fun hc => vl) (gp true y3 (.d (.sl 10 (p0.where_.map cGExpr))) (fun hc => vg hc) (gp true y3 (vI (ln p0.where_)) (fun hc => vop_len (sz := 10) (l := p0.where_) (f := cGExpr) (Eq.trans (b := ([(true && (y3 == false))] : List Bool).all id) (by kernel_rfl) (all_c hc rfl)) (by kernel_rfl)) (gp true y3 (vB (decide (1 < (ln p0.where_)))) (fun hc => vg hc) ?_))))
   refine vs (fun (y : Bool) => (vB y)) h (fun y hy => vop_pickV hy (p := true) (q := (true && (y3 == false))) (by kernel_rfl) (by kernel_rfl) (by kernel_rfl) (by kernel_rfl) (fun _ => rfl) (fun hb => gc_f rfl hb)) fun y4 h => ?_
   let a4 : St := a3.p [(27, (vB y4)), (26, (vB y4)), (25, (.ite (gF y3) (vB (decide (1 < (ln p0.where_)))))), (24, (.ite (gF y3) (vI (ln p0.where_)))), (23, (.ite (gF y3) (.d (.sl 10 (p0.where_.map cGExpr))))), (22, (.ite (gF y3) (.ptr 1 3)))]
   refine st 1 a4 (gp true y4 (.ptr 1 4) (fun hc => vl) (gp true y4 (.d (.sl 11 (p0.order.map cGSortKey))) (fun hc => vg hc) (gp true y4 (vI (ln p0.order)) (fun hc => vop_len (sz := 11) (l := p0.order) (f := cGSortKey) (Eq.trans (b := ([(true && (y4 == false))] : List Bool).all id) (by kernel_rfl) (all_c hc rfl)) (by kernel_rfl)) (gp true y4 (vB (decide (12 < (ln p0.order)))) (fun hc => vg hc) ?_))))
   refine vs (fun (y : Bool) => (vB y)) h (fun y hy => vop_pickV hy (p := true) (q := (true && (y4 == false))) (by kernel_rfl) (by kernel_rfl) (by kernel_rfl) (by kernel_rfl) (fun _ => rfl) (fun hb => gc_f rfl hb)) fun y5 h => ?_
   let a5 : St := a4.p [(33, (vB y5)), (32, (vB y5)), (31, (.ite (gF y4) (vB (decide (12 < (ln p0.order)))))), (30, (.ite (gF y4) (vI (ln p0.order)))), (29, (.ite (gF y4) (.d (.sl 11 (p0.order.map cGSortKey))))), (28, (.ite (gF y4) (.ptr 1 4)))]
   refine st 1 a5 (gp true y5 (.ptr 1 5) (fun hc => vl) (gp true y5 (vI p0.limit) (fun hc => vg hc) (gp true y5 (vB (decide (p0.limit < (-1)))) (fun hc => vg hc) (vs (fun (y : Bool) => (vB y)) h (fun y hy => vop_pickV hy (p := true) (q := (true && (y5 == false))) (by kernel_rfl) (by kernel_rfl) (by kernel_rfl) (by kernel_rfl) (fun _ => rfl) (fun hb => gc_f rfl hb)) fun y6 h => (nx ?_)))))
   refine cd h (fun h => ?_) fun h => ?_
   refine so ?_
   let a6 : St := a5.p [(2, (vB false)), (37, (vB y6)), (36, (.ite (gF y5) (vB (decide (p0.limit < (-1)))))), (35, (.ite (gF y5) (vI p0.limit))), (34, (.ite (gF y5) (.ptr 1 5)))]
   refine st 1 a6 (nx (ri (tr ?_)))
   injection h with h; subst h
   exact r1 (v := (vB false))
   refine ki (xi (si (so ?_)))
   let a7 : St := a5.p [(3, (vI 0)), (37, (vB y6)), (36, (.ite (gF y5) (vB (decide (p0.limit < (-1)))))), (35, (.ite (gF y5) (vI p0.limit))), (34, (.ite (gF y5) (.ptr 1 5)))]
   exact st 1 a7 (nx (bi (loop_go (s' := stsL7RightQuery_L0 p0 0) (wr [] (es (es er_nil)) (bs_ br_nil)) (OK_sL7RightQuery_L0 p0 0 _ h))))
 · intro F_sL7RightQuery_L0 F_sL7RightQuery_L1 OK_sL7RightQuery_L0 OK_sL7RightQuery_L1 p0 x3 r h
   delta acsL7RightQuery_L0
   refine loop_unroll (si (so ?_))
   let a8 : St := (stsL7RightQuery_L0 p0 x3).p [(40, (.d (.sl 13 (p0.items.map cGItem)))), (39, (.ptr 1 1)), (38, (vI x3))]
   refine st 3 a8 (ps (vI (ln p0.items)) (vln (sz := 13) (l := p0.items) (f := cGItem)) ?_)
   let a9 : St := a8.p [(42, (vB (decide (x3 < (ln p0.items))))), (41, (vI (ln p0.items)))]
   refine st 1 a9 (nx ?_)
   refine cd h (fun h => ?_) fun h => ?_
   refine ki (xi (si (bi (so ?_))))
   let a10 : St := a9.p [(47, (vI x3)), (46, (.d (.sl 13 (p0.items.map cGItem)))), (45, (.ptr 1 1))]
   refine st 3 a10 (vs (fun (y : GItem) => (.rp (oGItem y))) h (fun y hy => via (l := p0.items) (f := cGItem) (g := oGItem) (k := .i64) hy cGItem_eq) fun y7 h => ?_)
   let a11 : St := ⟨(4, (.ptr 4 0)) :: (49, (vGItem y7)) :: (48, (.rp (oGItem y7))) :: a10.env, [(4, bGItem y7), (1, bGQuery p0)]⟩
   refine st 3 a11 (nx (so ?_))
   let a12 : St := a11.p [(52, (vB y7.star)), (51, (vB y7.star)), (50, (.ptr 4 0))]
   refine st 3 a12 (gp true y7.star (.ptr 4 1) (fun hc => vl) (gp true y7.star (vS y7.qual) (fun hc => vg hc) ?_))
   refine gcall_step (p := true) (b := y7.star) (m := sL7Maybe y7.qual) (dflt := default) (args := [(vS y7.qual)]) (v' := (fun y => (vB y))) h (by kernel_rfl) (OK_sL7Maybe y7.qual) (fun hc => by kernel_rfl) (by kernel_rfl) (fun _ => rfl) (fun hc => (Eq.trans (b := ([(true && (y7.star == true))] : List Bool).all id) (by kernel_rfl) (all_c hc rfl))) ?_
   clear h; intro y8 h
   refine gp true y7.star (vB (!y8)) (fun hc => vg hc) (gp true y7.star (vB (!y8)) (fun hc => vg hc) (gp (true && (y7.star == true)) (!y8) (.ptr 4 12) (fun hc => vl) (gp (true && (y7.star == true)) (!y8) (vS y7.as_) (fun hc => vg hc) (gp (true && (y7.star == true)) (!y8) (vB (!decide (y7.as_ = []))) (fun hc => vg hc) ?_))))
   refine gv true y7.star (fun (y : Bool) => (vB y)) h (fun y hy hc => vop_pickV hy (p := true) (q := ((true && (y7.star == true)) && ((!y8) == false))) (Eq.trans (b := ([(true && (y7.star == true))] : List Bool).all id) (by kernel_rfl) (all_c hc rfl)) (by kernel_rfl) (by kernel_rfl) (by kernel_rfl) (fun _ => rfl) (fun hb => gc_f hc hb)) fun y9 h => (gp true y7.star (vB y9) (fun hc => vg hc) ?_)
   refine gp (true && (y7.star == true)) y9 (.ptr 4 2) (fun hc => vl) (gp (true && (y7.star == true)) y9 (vGExpr y7.expr) (fun hc => vg hc) (gp (true && (y7.star == true)) y9 (vGExpr (GExpr.mk 0 0 false (GValue.mk 0 0 []) [] [] ([] : List GExpr) ([] : List GQuery))) (fun hc => vl) ?_))
   refine gcall_step (p := (true && (y7.star == true))) (b := y9) (m := sSameExpr y7.expr (GExpr.mk 0 0 false (GValue.mk 0 0 []) [] [] ([] : List GExpr) ([] : List GQuery))) (dflt := default) (args := [(vGExpr y7.expr), (vGExpr (GExpr.mk 0 0 false (GValue.mk 0 0 []) [] [] ([] : List GExpr) ([] : List GQuery)))]) (v' := (fun y => (vB y))) h (by kernel_rfl) (OK_sSameExpr y7.expr (GExpr.mk 0 0 false (GValue.mk 0 0 []) [] [] ([] : List GExpr) ([] : List GQuery))) (fun hc => by kernel_rfl) (by kernel_rfl) (fun _ => rfl) (fun hc => (Eq.trans (b := ([((true && (y7.star == true)) && (y9 == false)), ((true && (y7.star == true)) && (y9 == false))] : List Bool).all id) (by kernel_rfl) (all_c hc (all_c hc rfl)))) ?_
   clear h; intro y10 h
   refine gp (true && (y7.star == true)) y9 (vB (!y10)) (fun hc => vg hc) ?_
   refine gv true y7.star (fun (y : Bool) => (vB y)) h (fun y hy hc => vop_pickV hy (p := true) (q := ((true && (y7.star == true)) && (y9 == false))) (Eq.trans (b := ([(true && (y7.star == true))] : List Bool).all id) (by kernel_rfl) (all_c hc rfl)) (by kernel_rfl) (by kernel_rfl) (by kernel_rfl) (fun _ => rfl) (fun hb => gc_f hc hb)) fun y11 h => ?_
   refine vs (fun (y : Bool) => (vB y)) h (fun y hy => vop_pickV hy (p := (true && (y7.star == true))) (q := true) (by kernel_rfl) (by kernel_rfl) (by kernel_rfl) (by kernel_rfl) (fun hb => gc_t rfl hb) (fun _ => rfl)) fun y12 h => ?_
   let a13 : St := a12.p [(70, (vB y12)), (69, (vB y12)), (68, (.ite (true && (y7.star == true)) (vB y11))), (67, (.ite ((true && (y7.star == true)) && (y9 == false)) (vB (!y10)))), (66, (.ite ((true && (y7.star == true)) && (y9 == false)) (vB y10))), (65, (.ite ((true && (y7.star == true)) && (y9 == false)) (vGExpr (GExpr.mk 0 0 false (GValue.mk 0 0 []) [] [] ([] : List GExpr) ([] : List GQuery))))), (64, (.ite ((true && (y7.star == true)) && (y9 == false)) (vGExpr y7.expr))), (63, (.ite ((true && (y7.star == true)) && (y9 == false)) (.ptr 4 2))), (62, (.ite (true && (y7.star == true)) (vB y9))), (61, (.ite (true && (y7.star == true)) (vB y9))), (60, (.ite ((true && (y7.star == true)) && ((!y8) == false)) (vB (!decide (y7.as_ = []))))), (59, (.ite ((true && (y7.star == true)) && ((!y8) == false)) (vS y7.as_))), (58, (.ite ((true && (y7.star == true)) && ((!y8) == false)) (.ptr 4 12))), (57, (.ite (true && (y7.star == true)) (vB (!y8)))), (56, (.ite (true && (y7.star == true)) (vB (!y8)))), (55, (.ite (true && (y7.star == true)) (vB y8))), (54, (.ite (true && (y7.star == true)) (vS y7.qual))), (53, (.ite (true && (y7.star == true)) (.ptr 4 1)))]
   refine st 1 a13 (gp true y12 (.ptr 4 0) (fun hc => vl) (gp true y12 (vB y7.star) (fun hc => vg hc) (gp true y12 (vB (!y7.star)) (fun hc => vg hc) (gp true y12 (vB (!y7.star)) (fun hc => vg hc) (gp (true && (y12 == false)) (!y7.star) (.ptr 4 1) (fun hc => vl) (gp (true && (y12 == false)) (!y7.star) (vS y7.qual) (fun hc => vg hc) (gp (true && (y12 == false)) (!y7.star) (vB (!decide (y7.qual = []))) (fun hc => vg hc) ?_)))))))
   refine gp (true && (y12 == false)) (!y7.star) (vB (!decide (y7.qual = []))) (fun hc => vg hc) (gp ((true && (y12 == false)) && ((!y7.star) == true)) (!decide (y7.qual = [])) (.ptr 4 12) (fun hc => vl) ?_)
   refine gp ((true && (y12 == false)) && ((!y7.star) == true)) (!decide (y7.qual = [])) (vS y7.as_) (fun hc => vop_val1 (Eq.trans (b := ([(((true && (y12 == false)) && ((!y7.star) == true)) && ((!decide (y7.qual = [])) == false))] : List Bool).all id) (by kernel_rfl) (all_c hc rfl)) (by kernel_rfl)) ?_
   refine gcall_step (p := ((true && (y12 == false)) && ((!y7.star) == true))) (b := (!decide (y7.qual = []))) (m := sL7Maybe y7.as_) (dflt := default) (args := [(vS y7.as_)]) (v' := (fun y => (vB y))) h (by kernel_rfl) (OK_sL7Maybe y7.as_) (fun hc => by kernel_rfl) (by kernel_rfl) (fun _ => rfl) (fun hc => (Eq.trans (b := ([(((true && (y12 == false)) && ((!y7.star) == true)) && ((!decide (y7.qual = [])) == false))] : List Bool).all id) (by kernel_rfl) (all_c hc rfl))) ?_
   clear h; intro y13 h
   refine gp ((true && (y12 == false)) && ((!y7.star) == true)) (!decide (y7.qual = [])) (vB (!y13)) (fun hc => vop_val1 (Eq.trans (b := ([(((true && (y12 == false)) && ((!y7.star) == true)) && ((!decide (y7.qual = [])) == false))] : List Bool).all id) (by kernel_rfl) (all_c hc rfl)) (by kernel_rfl)) ?_
   refine gv (true && (y12 == false)) (!y7.star) (fun (y : Bool) => (vB y)) h (fun y hy hc => vop_pickV hy (p := true) (q := (((true && (y12 == false)) && ((!y7.star) == true)) && ((!decide (y7.qual = [])) == false))) (Eq.trans (b := ([((true && (y12 == false)) && ((!y7.star) == true))] : List Bool).all id) (by kernel_rfl) (all_c hc rfl)) (by kernel_rfl) (by kernel_rfl) (by kernel_rfl) (fun _ => rfl) (fun hb => gc_f hc hb)) fun y14 h => ?_
   refine gv true y12 (fun (y : Bool) => (vB y)) h (fun y hy hc => vop_pickV hy (p := ((true && (y12 == false)) && ((!y7.star) == true))) (q := true) (Eq.trans (b := ([(true && (y12 == false))] : List Bool).all id) (by kernel_rfl) (all_c hc rfl)) (by kernel_rfl) (by kernel_rfl) (by kernel_rfl) (fun hb => gc_t hc hb) (fun _ => rfl)) fun y15 h => ?_
   refine vs (fun (y : Bool) => (vB y)) h (fun y hy => vop_pickV hy (p := true) (q := (true && (y12 == false))) (by kernel_rfl) (by kernel_rfl) (by kernel_rfl) (by kernel_rfl) (fun _ => rfl) (fun hb => gc_f rfl hb)) fun y16 h => (nx ?_)
   refine cd h (fun h => ?_) fun h => ?_
   refine so ?_
   let a14 : St := a13.p [(2, (vB false)), (85, (vB y16)), (84, (.ite (gF y12) (vB y15))), (83, (.ite ((gF y12) && ((!y7.star) == true)) (vB y14))), (82, (.ite (((gF y12) && ((!y7.star) == true)) && ((!decide (y7.qual = [])) == false)) (vB (!y13)))), (81, (.ite (((gF y12) && ((!y7.star) == true)) && ((!decide (y7.qual = [])) == false)) (vB y13))), (80, (.ite (((gF y12) && ((!y7.star) == true)) && ((!decide (y7.qual = [])) == false)) (vS y7.as_))), (79, (.ite (((gF y12) && ((!y7.star) == true)) && ((!decide (y7.qual = [])) == false)) (.ptr 4 12))), (78, (.ite ((gF y12) && ((!y7.star) == true)) (vB (!decide (y7.qual = []))))), (77, (.ite ((gF y12) && ((!y7.star) == true)) (vB (!decide (y7.qual = []))))), (76, (.ite ((gF y12) && ((!y7.star) == true)) (vS y7.qual))), (75, (.ite ((gF y12) && ((!y7.star) == true)) (.ptr 4 1))), (74, (.ite (gF y12) (vB (!y7.star)))), (73, (.ite (gF y12) (vB (!y7.star)))), (72, (.ite (gF y12) (vB y7.star))), (71, (.ite (gF y12) (.ptr 4 0)))]
   refine st 1 a14 (nx (ri (br (tr (tr (br (tr ?_)))))))
   injection h with h; subst h
   exact r1 (v := (vB false))
   refine ki (bn (xi (oi ?_)))
   let a15 : St := a13.p [(3, (vI (IntKind.wrap .i64 (x3 + 1)))), (44, (vI (IntKind.wrap .i64 (x3 + 1)))), (43, (vI x3)), (85, (vB y16)), (84, (.ite (gF y12) (vB y15))), (83, (.ite ((gF y12) && ((!y7.star) == true)) (vB y14))), (82, (.ite (((gF y12) && ((!y7.star) == true)) && ((!decide (y7.qual = [])) == false)) (vB (!y13)))), (81, (.ite (((gF y12) && ((!y7.star) == true)) && ((!decide (y7.qual = [])) == false)) (vB y13))), (80, (.ite (((gF y12) && ((!y7.star) == true)) && ((!decide (y7.qual = [])) == false)) (vS y7.as_))), (79, (.ite (((gF y12) && ((!y7.star) == true)) && ((!decide (y7.qual = [])) == false)) (.ptr 4 12))), (78, (.ite ((gF y12) && ((!y7.star) == true)) (vB (!decide (y7.qual = []))))), (77, (.ite ((gF y12) && ((!y7.star) == true)) (vB (!decide (y7.qual = []))))), (76, (.ite ((gF y12) && ((!y7.star) == true)) (vS y7.qual))), (75, (.ite ((gF y12) && ((!y7.star) == true)) (.ptr 4 1))), (74, (.ite (gF y12) (vB (!y7.star)))), (73, (.ite (gF y12) (vB (!y7.star)))), (72, (.ite (gF y12) (vB y7.star))), (71, (.ite (gF y12) (.ptr 4 0)))]
   exact st 3 a15 (ni (loop_back (s' := stsL7RightQuery_L0 p0 (IntKind.wrap .i64 (x3 + 1))) (wr [] (es (es er_nil)) (bs_ br_nil)) (OK_sL7RightQuery_L0 p0 (IntKind.wrap .i64 (x3 + 1)) _ h)))
   refine ei (te (te (bh (xi (si (so ?_))))))
   let a16 : St := a9.p [(5, (vI 0))]
   exact st 1 a16 (nx (bi (loop_go (s' := stsL7RightQuery_L1 p0 0) (wr [] (es (es er_nil)) (bs_ br_nil)) (OK_sL7RightQuery_L1 p0 0 _ h))))
 · intro F_sL7RightQuery_L2 F_sL7RightQuery_L1 OK_sL7RightQuery_L2 OK_sL7RightQuery_L1 p0 x5 r h
   delta acsL7RightQuery_L1
   refine loop_unroll (si (so ?_))
   let a17 : St := (stsL7RightQuery_L1 p0 x5).p [(88, (.d (.sl 3 (p0.from_.map cGSource)))), (87, (.ptr 1 2)), (86, (vI x5))]
   refine st 3 a17 (ps (vI (ln p0.from_)) (vln (sz := 3) (l := p0.from_) (f := cGSource)) ?_)
   let a18 : St := a17.p [(90, (vB (decide (x5 < (ln p0.from_))))), (89, (vI (ln p0.from_)))]
   refine st 1 a18 (nx ?_)
   refine cd h (fun h => ?_) fun h => ?_
   refine ki (xi (si (bi (so ?_))))
   let a19 : St := a18.p [(95, (vI x5)), (94, (.d (.sl 3 (p0.from_.map cGSource)))), (93, (.ptr 1 2))]
   refine st 3 a19 (vs (fun (y : GSource) => (.rp (oGSource y))) h (fun y hy => via (l := p0.from_) (f := cGSource) (g := oGSource) (k := .i64) hy cGSource_eq) fun y17 h => ?_)
   let a20 : St := ⟨(6, (.ptr 6 0)) :: (97, (vGSource y17)) :: (96, (.rp (oGSource y17))) :: a19.env, [(6, bGSource y17), (1, bGQuery p0)]⟩
   refine st 3 a20 (nx (so ?_))
   let a21 : St := a20.p [(99, (vS y17.table)), (98, (.ptr 6 0))]
   refine st 2 a21 (cs h (OK_sNameOk y17.table) fun y18 h => ?_)
   let a22 : St := a21.p [(102, (vB (!y18))), (101, (vB (!y18))), (100, (vB y18))]
   refine st 2 a22 (gp true (!y18) (.ptr 6 1) (fun hc => vl) (gp true (!y18) (vS y17.as_) (fun hc => vg hc) ?_))
   refine gcall_step (p := true) (b := (!y18)) (m := sL7Maybe y17.as_) (dflt := default) (args := [(vS y17.as_)]) (v' := (fun y => (vB y))) h (by kernel_rfl) (OK_sL7Maybe y17.as_) (fun hc => by kernel_rfl) (by kernel_rfl) (fun _ => rfl) (fun hc => (Eq.trans (b := ([(true && ((!y18) == false))] : List Bool).all id) (by kernel_rfl) (all_c hc rfl))) ?_
   clear h; intro y19 h
   refine gp true (!y18) (vB (!y19)) (fun hc => vg hc) (vs (fun (y : Bool) => (vB y)) h (fun y hy => vop_pickV hy (p := true) (q := (true && ((!y18) == false))) (by kernel_rfl) (by kernel_rfl) (by kernel_rfl) (by kernel_rfl) (fun _ => rfl) (fun hb => gc_f rfl hb)) fun y20 h => ?_)
   let a23 : St := a22.p [(108, (vB y20)), (107, (vB y20)), (106, (.ite (true && ((!y18) == false)) (vB (!y19)))), (105, (.ite (true && ((!y18) == false)) (vB y19))), (104, (.ite (true && ((!y18) == false)) (vS y17.as_))), (103, (.ite (true && ((!y18) == false)) (.ptr 6 1)))]
   refine st 1 a23 (gp true y20 (.ptr 6 2) (fun hc => vl) (gp true y20 (.d (.sl 10 (y17.on_.map cGExpr))) (fun hc => vg hc) (gp true y20 (vI (ln y17.on_)) (fun hc => vop_len (sz := 10) (l := y17.on_) (f := cGExpr) (Eq.trans (b := ([(true && (y20 == false))] : List Bool).all id) (by kernel_rfl) (all_c hc rfl)) (by kernel_rfl)) (gp true y20 (vB (decide (1 < (ln y17.on_)))) (fun hc => vg hc) ?_))))
   refine vs (fun (y : Bool) => (vB y)) h (fun y hy => vop_pickV hy (p := true) (q := (true && (y20 == false))) (by kernel_rfl) (by kernel_rfl) (by kernel_rfl) (by kernel_rfl) (fun _ => rfl) (fun hb => gc_f rfl hb)) fun y21 h => ?_
   let a24 : St := a23.p [(114, (vB y21)), (113, (vB y21)), (112, (.ite (gF y20) (vB (decide (1 < (ln y17.on_)))))), (111, (.ite (gF y20) (vI (ln y17.on_)))), (110, (.ite (gF y20) (.d (.sl 10 (y17.on_.map cGExpr))))), (109, (.ite (gF y20) (.ptr 6 2)))]
   refine st 1 a24 (gp true y21 (vI x5) (fun hc => vl) (gp true y21 (vB (decide (x5 = 0))) (fun hc => vg hc) (gp true y21 (vB (decide (x5 = 0))) (fun hc => vg hc) (gp (true && (y21 == false)) (decide (x5 = 0)) (.ptr 6 2) (fun hc => vl) (gp (true && (y21 == false)) (decide (x5 = 0)) (.d (.sl 10 (y17.on_.map cGExpr))) (fun hc => vg hc) ?_)))))
   refine gp (true && (y21 == false)) (decide (x5 = 0)) (vI (ln y17.on_)) (fun hc => vop_len (sz := 10) (l := y17.on_) (f := cGExpr) (Eq.trans (b := ([((true && (y21 == false)) && ((decide (x5 = 0)) == true))] : List Bool).all id) (by kernel_rfl) (all_c hc rfl)) (by kernel_rfl)) (gp (true && (y21 == false)) (decide (x5 = 0)) (vB (decide (0 < (ln y17.on_)))) (fun hc => vg hc) ?_)
   refine gv true y21 (fun (y : Bool) => (vB y)) h (fun y hy hc => vop_pickV hy (p := ((true && (y21 == false)) && ((decide (x5 = 0)) == true))) (q := true) (Eq.trans (b := ([(true && (y21 == false))] : List Bool).all id) (by kernel_rfl) (all_c hc rfl)) (by kernel_rfl) (by kernel_rfl) (by kernel_rfl) (fun hb => gc_t hc hb) (fun _ => rfl)) fun y22 h => ?_
   refine vs (fun (y : Bool) => (vB y)) h (fun y hy => vop_pickV hy (p := true) (q := (true && (y21 == false))) (by kernel_rfl) (by kernel_rfl) (by kernel_rfl) (by kernel_rfl) (fun _ => rfl) (fun hb => gc_f rfl hb)) fun y23 h => (nx ?_)
   refine cd h (fun h => ?_) fun h => ?_
   refine so ?_
   let a25 : St := a24.p [(2, (vB false)), (123, (vB y23)), (122, (.ite (gF y21) (vB y22))), (121, (.ite ((gF y21) && ((decide (x5 = 0)) == true)) (vB (decide (0 < (ln y17.on_)))))), (120, (.ite ((gF y21) && ((decide (x5 = 0)) == true)) (vI (ln y17.on_)))), (119, (.ite ((gF y21) && ((decide (x5 = 0)) == true)) (.d (.sl 10 (y17.on_.map cGExpr))))), (118, (.ite ((gF y21) && ((decide (x5 = 0)) == true)) (.ptr 6 2))), (117, (.ite (gF y21) (vB (decide (x5 = 0))))), (116, (.ite (gF y21) (vB (decide (x5 = 0))))), (115, (.ite (gF y21) (vI x5)))]
   refine st 1 a25 (nx (ri (br (tr (tr (br (tr ?_)))))))
   injection h with h; subst h
   exact r1 (v := (vB false))
   refine ki (bn (xi (oi ?_)))
   let a26 : St := a24.p [(5, (vI (IntKind.wrap .i64 (x5 + 1)))), (92, (vI (IntKind.wrap .i64 (x5 + 1)))), (91, (vI x5)), (123, (vB y23)), (122, (.ite (gF y21) (vB y22))), (121, (.ite ((gF y21) && ((decide (x5 = 0)) == true)) (vB (decide (0 < (ln y17.on_)))))), (120, (.ite ((gF y21) && ((decide (x5 = 0)) == true)) (vI (ln y17.on_)))), (119, (.ite ((gF y21) && ((decide (x5 = 0)) == true)) (.d (.sl 10 (y17.on_.map cGExpr))))), (118, (.ite ((gF y21) && ((decide (x5 = 0)) == true)) (.ptr 6 2))), (117, (.ite (gF y21) (vB (decide (x5 = 0))))), (116, (.ite (gF y21) (vB (decide (x5 = 0))))), (115, (.ite (gF y21) (vI x5)))]
   exact st 3 a26 (ni (loop_back (s' := stsL7RightQuery_L1 p0 (IntKind.wrap .i64 (x5 + 1))) (wr [] (es (es er_nil)) (bs_ br_nil)) (OK_sL7RightQuery_L1 p0 (IntKind.wrap .i64 (x5 + 1)) _ h)))
   refine ei (te (te (bh (xi (so ?_)))))
   let a27 : St := a18.p [(124, (vGQuery p0))]
   refine st 1 a27 (callg_step ⟨[], [], [], [], [], [(2000000, 125)], [], [125]⟩ (m := sL7Exprs p0) (S' := fun (y : (List GExpr)) => ⟨(125, (.osl 125 82 10 (y.map cGExpr))) :: a27.env, a27.bx⟩) h (OK_sL7Exprs p0) (by kernel_rfl) (by kernel_rfl) (by kernel_rfl) (by kernel_rfl) (fun y => by kernel_rfl) (fun y => by kernel_rfl) ?_)
   clear h; intro y24 h
   let a28 : St := a27.p [(7, (.osl 7 82 10 (y24.map cGExpr))), (125, (.d (.sl 10 (y24.map cGExpr))))]
   refine st 1 a28 (nx (si (so ?_)))
   let a29 : St := a28.p [(8, (vI 0))]
   exact st 1 a29 (nx (bi (loop_go (s' := stsL7RightQuery_L2 y24 0) (wr [(7, .old 7)] (eo 7 (es er_nil)) br_nil) (OK_sL7RightQuery_L2 y24 0 _ h))))
theorem OK_sL7RightQuery_L2 (y24 : (List GExpr)) (x8 : Int) (r : Bool) (h : sL7RightQuery_L2 y24 x8 = some r) : avc Tryz.prog acsL7RightQuery_L2 (qsL7RightQuery_5 r) (stsL7RightQuery_L2 y24 x8) := (OKs_sL7RightQuery_L2).1 y24 x8 r h
theorem OK_sL7Right (p0 : GExpr) : FOk Tryz.prog 106 [(vGExpr p0)] (fun y => (vB y)) (sL7Right p0) := fun r h => (OKs_sL7RightQuery_L2).2.1 p0 r h
theorem OK_sL7Right_L0 (p0 : GExpr) (x3 : Int) (r : Bool) (h : sL7Right_L0 p0 x3 = some r) : avc Tryz.prog acsL7Right_L0 (qsL7Right_1 r) (stsL7Right_L0 p0 x3) := (OKs_sL7RightQuery_L2).2.2.1 p0 x3 r h
theorem OK_sL7RightQuery (p0 : GQuery) : FOk Tryz.prog 82 [(vGQuery p0)] (fun y => (vB y)) (sL7RightQuery p0) := fun r h => (OKs_sL7RightQuery_L2).2.2.2.1 p0 r h
theorem OK_sL7RightQuery_L0 (p0 : GQuery) (x3 : Int) (r : Bool) (h : sL7RightQuery_L0 p0 x3 = some r) : avc Tryz.prog acsL7RightQuery_L0 (qsL7RightQuery_1 r) (stsL7RightQuery_L0 p0 x3) := (OKs_sL7RightQuery_L2).2.2.2.2.1 p0 x3 r h
theorem OK_sL7RightQuery_L1 (p0 : GQuery) (x5 : Int) (r : Bool) (h : sL7RightQuery_L1 p0 x5 = some r) : avc Tryz.prog acsL7RightQuery_L1 (qsL7RightQuery_3 r) (stsL7RightQuery_L1 p0 x5) := (OKs_sL7RightQuery_L2).2.2.2.2.2 p0 x5 r h
theorem OK_sExprOk (p0 : GExpr) : FOk Tryz.prog 85 [(vGExpr p0)] (fun y => (vB y)) (sExprOk p0) := by
 intro r h
 rw [sExprOk] at h
 refine aof trsExprOk ?_
 show avc Tryz.prog acsExprOk (qsExprOk _) ⟨[(0, (vGExpr p0))], []⟩
 delta acsExprOk
 refine so ?_
 let a0 : St := ⟨[(2, (vB false)), (1, (.ptr 1 0)), (0, (vGExpr p0))], [(1, bGExpr p0)]⟩
 refine st 2 a0 (nx (so ?_))
 let a1 : St := a0.p [(3, (vGExpr p0))]
 refine st 1 a1 (cs h (OK_sL7Left p0 200) fun y1 h => ?_)
 let a2 : St := a1.p [(6, (vB (decide (0 ≤ y1)))), (5, (vB (decide (0 ≤ y1)))), (4, (vI y1))]
 refine st 2 a2 (gp true (decide (0 ≤ y1)) (vGExpr p0) (fun hc => vl) ?_)
 refine gcall_step (p := true) (b := (decide (0 ≤ y1))) (m := sL7Right p0) (dflt := default) (args := [(vGExpr p0)]) (v' := (fun y => (vB y))) h (by kernel_rfl) (OK_sL7Right p0) (fun hc => by kernel_rfl) (by kernel_rfl) (fun _ => rfl) (fun hc => (Eq.trans (b := ([(true && ((decide (0 ≤ y1)) == true))] : List Bool).all id) (by kernel_rfl) (all_c hc rfl))) ?_
 clear h; intro y2 h
 refine vs (fun (y : Bool) => (vB y)) h (fun y hy => vop_pickV hy (p := (true && ((decide (0 ≤ y1)) == true))) (q := true) (by kernel_rfl) (by kernel_rfl) (by kernel_rfl) (by kernel_rfl) (fun hb => gc_t rfl hb) (fun _ => rfl)) fun y3 h => ?_
 let a3 : St := a2.p [(10, (vB y3)), (9, (vB y3)), (8, (.ite (true && ((decide (0 ≤ y1)) == true)) (vB y2))), (7, (.ite (true && ((decide (0 ≤ y1)) == true)) (vGExpr p0)))]
 refine st 1 a3 (gp true y3 (vGExpr p0) (fun hc => vl) (gcall_step (p := true) (b := y3) (m := sDepthOf p0) (dflt := default) (args := [(vGExpr p0)]) (v' := (fun y => (vI y))) h (by kernel_rfl) (OK_sDepthOf p0) (fun hc => by kernel_rfl) (by kernel_rfl) (fun _ => rfl) (fun hc => (Eq.trans (b := ([(true && (y3 == true))] : List Bool).all id) (by kernel_rfl) (all_c hc rfl))) ?_))
 clear h; intro y4 h
 refine gp true y3 (vB (decide (y4 ≤ 24))) (fun hc => vg hc) (vs (fun (y : Bool) => (vB y)) h (fun y hy => vop_pickV hy (p := (true && (y3 == true))) (q := true) (by kernel_rfl) (by kernel_rfl) (by kernel_rfl) (by kernel_rfl) (fun hb => gc_t rfl hb) (fun _ => rfl)) fun y5 h => ?_)
 let a4 : St := a3.p [(2, (vB y5)), (14, (vB y5)), (13, (.ite (gT y3) (vB (decide (y4 ≤ 24))))), (12, (.ite (gT y3) (vI y4))), (11, (.ite (gT y3) (vGExpr p0)))]
 refine st 1 a4 (nx (ri ?_))
 injection h with h; subst h
 exact r1 (v := (vB y5))
theorem OKs_sL8All_L0 (p0 : (List GExpr)) : (∀ (x3 : Int) (r : Bool), sL8All_L0 p0 x3 = some r → avc Tryz.prog acsL8All_L0 (qsL8All_1 r) (stsL8All_L0 p0 x3)) := by
 refine sL8All_L0.partial_correctness p0 (fun x3 r => avc Tryz.prog acsL8All_L0 (qsL8All_1 r) (stsL8All_L0 p0 x3)) ?_
 · intro F_sL8All_L0 OK_sL8All_L0 x3 r h
   delta acsL8All_L0
   refine loop_unroll (si (so ?_))
   let a2 : St := (stsL8All_L0 p0 x3).p [(5, (.d (.sl 10 (p0.map cGExpr)))), (4, (vI x3))]
   refine st 2 a2 (ps (vI (ln p0)) (vln (sz := 10) (l := p0) (f := cGExpr)) ?_)
   let a3 : St := a2.p [(7, (vB (decide (x3 < (ln p0))))), (6, (vI (ln p0)))]
   refine st 1 a3 (nx ?_)
   refine cd h (fun h => ?_) fun h => ?_
   refine ki (xi (si (bi (so ?_))))
   let a4 : St := a3.p [(11, (vI x3)), (10, (.d (.sl 10 (p0.map cGExpr))))]
   refine st 2 a4 (vs (fun (y : GExpr) => (.rp (oGExpr y))) h (fun y hy => via (l := p0) (f := cGExpr) (g := oGExpr) (k := .i64) hy cGExpr_eq) fun y1 h => ?_)
   let a5 : St := a4.p [(13, (vGExpr y1)), (12, (.rp (oGExpr y1)))]
   refine st 1 a5 (cs h (OK_sExprOk y1) fun y2 h => ?_)
   let a6 : St := a5.p [(15, (vB (!y2))), (14, (vB y2))]
   refine st 1 a6 (nx ?_)
   refine cd h (fun h => ?_) fun h => ?_
   refine so ?_
   let a7 : St := a6.p [(2, (vB false))]
   refine st 1 a7 (nx (ri (br (tr (tr (br (tr ?_)))))))
   injection h with h; subst h
   exact r1 (v := (vB false))
   refine ki (bn (xi (oi ?_)))
   let a8 : St := a6.p [(3, (vI (IntKind.wrap .i64 (x3 + 1)))), (9, (vI (IntKind.wrap .i64 (x3 + 1)))), (8, (vI x3))]
   exact st 3 a8 (ni (loop_back (s' := stsL8All_L0 p0 (IntKind.wrap .i64 (x3 + 1))) (wr [] (es (es er_nil)) br_nil) (OK_sL8All_L0 (IntKind.wrap .i64 (x3 + 1)) _ h)))
   refine ei (te (te (bh (xi (so ?_)))))
   let a9 : St := a3.p [(2, (vB true))]
   refine st 1 a9 (nx (ri ?_))
   injection h with h; subst h
   exact r1 (v := (vB true))
theorem OK_sL8All_L0 (p0 : (List GExpr)) (x3 : Int) (r : Bool) (h : sL8All_L0 p0 x3 = some r) : avc Tryz.prog acsL8All_L0 (qsL8All_1 r) (stsL8All_L0 p0 x3) := (OKs_sL8All_L0 p0) x3 r h
theorem OK_sL8All (p0 : (List GExpr)) : FOk Tryz.prog 44 [(.d (.sl 10 (p0.map cGExpr)))] (fun y => (vB y)) (sL8All p0) := by
 intro r h
 rw [sL8All] at h
 refine aof trsL8All ?_
 show avc Tryz.prog acsL8All (qsL8All _) ⟨[(0, (.d (.sl 10 (p0.map cGExpr))))], []⟩
 delta acsL8All
 refine so ?_
 let a0 : St := ⟨[(2, (vB false)), (0, (.d (.sl 10 (p0.map cGExpr))))], []⟩
 refine st 1 a0 (nx (si (so ?_)))
 let a1 : St := a0.p [(3, (vI 0))]
 exact st 1 a1 (nx (bi (loop_go (s' := stsL8All_L0 p0 0) (wr [] (es (es er_nil)) br_nil) (OK_sL8All_L0 p0 0 _ h))))
theorem OKs_sL8Shape_L0 (y1 : Bool) (y2 : Bool) (p0 : GStmt) : (∀ (x9 : Int) (r : Bool), sL8Shape_L0 y1 y2 p0 x9 = some r → avc Tryz.prog acsL8Shape_L0 (qsL8Shape_3 r) (stsL8Shape_L0 y1 y2 p0 x9)) := by
 refine sL8Shape_L0.partial_correctness y1 y2 p0 (fun x9 r => avc Tryz.prog acsL8Shape_L0 (qsL8Shape_3 r) (stsL8Shape_L0 y1 y2 p0 x9)) ?_
 · intro F_sL8Shape_L0 OK_sL8Shape_L0 x9 r h
   delta acsL8Shape_L0
   refine loop_unroll (si (so ?_))
   let a27 : St := (stsL8Shape_L0 y1 y2 p0 x9).p [(56, (vB (decide (x9 < (ln p0.rows))))), (55, (vI (ln p0.rows))), (54, (vI x9))]
   refine st 3 a27 (nx ?_)
   refine cd h (fun h => ?_) fun h => ?_
   refine ki (xi (si (bi (so ?_))))
   let a28 : St := a27.p [(61, (vI x9)), (60, (.d (.sl 1 (p0.rows.map (cSl 10 cGExpr))))), (59, (.ptr 1 8))]
   refine st 3 a28 (vs (fun (y : (List GExpr)) => (.rp [(.sl 10 (y.map cGExpr))])) h (fun y hy => via (l := p0.rows) (f := (cSl 10 cGExpr)) (g := (cSl 10 cGExpr)) (k := .i64) hy (fun _ => rfl)) fun y11 h => ?_)
   let a29 : St := a28.p [(63, (.d (.sl 10 (y11.map cGExpr)))), (62, (.rp [(.sl 10 (y11.map cGExpr))]))]
   refine st 1 a29 (ps (vI (ln y11)) (vln (sz := 10) (l := y11) (f := cGExpr)) (cs h (OK_sL1In (ln y11) 1 12) fun y12 h => ?_))
   let a30 : St := a29.p [(67, (vB (!y12))), (66, (vB (!y12))), (65, (vB y12)), (64, (vI (ln y11)))]
   refine st 2 a30 (gp true (!y12) (.ptr 1 8) (fun hc => vl) (gp true (!y12) (.d (.sl 1 (p0.rows.map (cSl 10 cGExpr)))) (fun hc => vg hc) (gp true (!y12) (vI x9) (fun hc => vl) ?_)))
   refine gv true (!y12) (fun (y : (List GExpr)) => (.rp [(.sl 10 (y.map cGExpr))])) h (fun y hy hc => vop_ia (l := p0.rows) (f := (cSl 10 cGExpr)) (g := (cSl 10 cGExpr)) (k := .i64) hy (fun _ => rfl) (Eq.trans (b := ([(true && ((!y12) == false)), (true && ((!y12) == false))] : List Bool).all id) (by kernel_rfl) (all_c hc (all_c hc rfl))) (by kernel_rfl) (by kernel_rfl)) fun y13 h => ?_
   refine gp true (!y12) (.d (.sl 10 (y13.map cGExpr))) (fun hc => vg hc) ?_
   refine gcall_step (p := true) (b := (!y12)) (m := sL8All y13) (dflt := default) (args := [(.d (.sl 10 (y13.map cGExpr)))]) (v' := (fun y => (vB y))) h (by kernel_rfl) (OK_sL8All y13) (fun hc => by kernel_rfl) (by kernel_rfl) (fun _ => rfl) (fun hc => (Eq.trans (b := ([(true && ((!y12) == false))] : List Bool).all id) (by kernel_rfl) (all_c hc rfl))) ?_
   clear h; intro y14 h
   refine gp true (!y12) (vB (!y14)) (fun hc => vg hc) (vs (fun (y : Bool) => (vB y)) h (fun y hy => vop_pickV hy (p := true) (q := (true && ((!y12) == false))) (by kernel_rfl) (by kernel_rfl) (by kernel_rfl) (by kernel_rfl) (fun _ => rfl) (fun hb => gc_f rfl hb)) fun y15 h => (nx ?_))
   refine cd h (fun h => ?_) fun h => ?_
   refine so ?_
   let a31 : St := a30.p [(2, (vB false)), (75, (vB y15)), (74, (.ite (true && ((!y12) == false)) (vB (!y14)))), (73, (.ite (true && ((!y12) == false)) (vB y14))), (72, (.ite (true && ((!y12) == false)) (.d (.sl 10 (y13.map cGExpr))))), (71, (.ite (true && ((!y12) == false)) (.rp [(.sl 10 (y13.map cGExpr))]))), (70, (.ite (true && ((!y12) == false)) (vI x9))), (69, (.ite (true && ((!y12) == false)) (.d (.sl 1 (p0.rows.map (cSl 10 cGExpr)))))), (68, (.ite (true && ((!y12) == false)) (.ptr 1 8)))]
   refine st 1 a31 (nx (ri (br (tr (tr (br (tr (br (tr ?_)))))))))
   injection h with h; subst h
   exact r1 (v := (vB false))
   refine ki (bn (xi (oi ?_)))
   let a32 : St := a30.p [(9, (vI (IntKind.wrap .i64 (x9 + 1)))), (58, (vI (IntKind.wrap .i64 (x9 + 1)))), (57, (vI x9)), (75, (vB y15)), (74, (.ite (true && ((!y12) == false)) (vB (!y14)))), (73, (.ite (true && ((!y12) == false)) (vB y14))), (72, (.ite (true && ((!y12) == false)) (.d (.sl 10 (y13.map cGExpr))))), (71, (.ite (true && ((!y12) == false)) (.rp [(.sl 10 (y13.map cGExpr))]))), (70, (.ite (true && ((!y12) == false)) (vI x9))), (69, (.ite (true && ((!y12) == false)) (.d (.sl 1 (p0.rows.map (cSl 10 cGExpr)))))), (68, (.ite (true && ((!y12) == false)) (.ptr 1 8)))]
   refine st 3 a32 (ni ?_)
   exact loop_back (s' := stsL8Shape_L0 y1 y2 p0 (IntKind.wrap .i64 (x9 + 1))) (wr [] (es (es (es (es (es (es (es (es er_nil)))))))) (bs_ br_nil)) (OK_sL8Shape_L0 (IntKind.wrap .i64 (x9 + 1)) _ h)
   refine ei (te (te (bh (xi (so ?_)))))
   let a33 : St := a27.p [(77, (vB y1)), (76, (vB y1))]
   refine st 2 a33 (gp true y1 (vB y2) (fun hc => vl) (vs (fun (y : Bool) => (vB y)) h (fun y hy => vop_pickV hy (p := (true && (y1 == true))) (q := true) (by kernel_rfl) (by kernel_rfl) (by kernel_rfl) (by kernel_rfl) (fun hb => gc_t rfl hb) (fun _ => rfl)) fun y16 h => ?_))
   let a34 : St := a33.p [(80, (vB y16)), (79, (vB y16)), (78, (.ite (gT y1) (vB y2)))]
   refine st 1 a34 (gp true y16 (vI (ln p0.rows)) (fun hc => vl) ?_)
   refine gcall_step (p := true) (b := y16) (m := sL1In (ln p0.rows) 1 5) (dflt := default) (args := [(vI (ln p0.rows)), (vI 1), (vI 5)]) (v' := (fun y => (vB y))) h (by kernel_rfl) (OK_sL1In (ln p0.rows) 1 5) (fun hc => by kernel_rfl) (by kernel_rfl) (fun _ => rfl) (fun hc => (Eq.trans (b := ([(true && (y16 == true))] : List Bool).all id) (by kernel_rfl) (all_c hc rfl))) ?_
   clear h; intro y17 h
   refine vs (fun (y : Bool) => (vB y)) h (fun y hy => vop_pickV hy (p := (true && (y16 == true))) (q := true) (by kernel_rfl) (by kernel_rfl) (by kernel_rfl) (by kernel_rfl) (fun hb => gc_t rfl hb) (fun _ => rfl)) fun y18 h => ?_
   let a35 : St := a34.p [(84, (vB y18)), (83, (vB y18)), (82, (.ite (gT y16) (vB y17))), (81, (.ite (gT y16) (vI (ln p0.rows))))]
   refine st 1 a35 (gp true y18 (vI (ln p0.cols)) (fun hc => vl) (gp true y18 (vI (ln p0.sets)) (fun hc => vl) (gp true y18 (vI (IntKind.wrap .i64 ((ln p0.cols) + (ln p0.sets)))) (fun hc => vop_val1 (Eq.trans (b := ([(true && (y18 == true)), (true && (y18 == true))] : List Bool).all id) (by kernel_rfl) (all_c hc (all_c hc rfl))) (by kernel_rfl)) ?_)))
   refine gp true y18 (vI (ln p0.where_)) (fun hc => vl) (gp true y18 (vI (IntKind.wrap .i64 ((IntKind.wrap .i64 ((ln p0.cols) + (ln p0.sets))) + (ln p0.where_)))) (fun hc => vop_val1 (Eq.trans (b := ([(true && (y18 == true)), (true && (y18 == true))] : List Bool).all id) (by kernel_rfl) (all_c hc (all_c hc rfl))) (by kernel_rfl)) ?_)
   refine gp true y18 (vB (decide ((IntKind.wrap .i64 ((IntKind.wrap .i64 ((ln p0.cols) + (ln p0.sets))) + (ln p0.where_))) = 0))) (fun hc => vg hc) (vs (fun (y : Bool) => (vB y)) h (fun y hy => vop_pickV hy (p := (true && (y18 == true))) (q := true) (by kernel_rfl) (by kernel_rfl) (by kernel_rfl) (by kernel_rfl) (fun hb => gc_t rfl hb) (fun _ => rfl)) fun y19 h => ?_)
   let a36 : St := a35.p [(2, (vB y19)), (91, (vB y19)), (90, (.ite (gT y18) (vB (decide ((IntKind.wrap .i64 ((IntKind.wrap .i64 ((ln p0.cols) + (ln p0.sets))) + (ln p0.where_))) = 0))))), (89, (.ite (gT y18) (vI (IntKind.wrap .i64 ((IntKind.wrap .i64 ((ln p0.cols) + (ln p0.sets))) + (ln p0.where_)))))), (88, (.ite (gT y18) (vI (ln p0.where_)))), (87, (.ite (gT y18) (vI (IntKind.wrap .i64 ((ln p0.cols) + (ln p0.sets)))))), (86, (.ite (gT y18) (vI (ln p0.sets)))), (85, (.ite (gT y18) (vI (ln p0.cols))))]
   refine st 1 a36 (nx (ri (br (tr ?_))))
   injection h with h; subst h
   exact r1 (v := (vB y19))
theorem OK_sL8Shape_L0 (y1 : Bool) (y2 : Bool) (p0 : GStmt) (x9 : Int) (r : Bool) (h : sL8Shape_L0 y1 y2 p0 x9 = some r) : avc Tryz.prog acsL8Shape_L0 (qsL8Shape_3 r) (stsL8Shape_L0 y1 y2 p0 x9) := (OKs_sL8Shape_L0 y1 y2 p0) x9 r h
theorem OKs_sL8Shape_L1 (y1 : Bool) (y2 : Bool) (p0 : GStmt) : (∀ (x10 : Int) (r : Bool), sL8Shape_L1 y1 y2 p0 x10 = some r → avc Tryz.prog acsL8Shape_L1 (qsL8Shape_5 r) (stsL8Shape_L1 y1 y2 p0 x10)) := by
 refine sL8Shape_L1.partial_correctness y1 y2 p0 (fun x10 r => avc Tryz.prog acsL8Shape_L1 (qsL8Shape_5 r) (stsL8Shape_L1 y1 y2 p0 x10)) ?_
 · intro F_sL8Shape_L1 OK_sL8Shape_L1 x10 r h
   delta acsL8Shape_L1
   refine loop_unroll (si (so ?_))
   let a37 : St := (stsL8Shape_L1 y1 y2 p0 x10).p [(96, (vB (decide (x10 < (ln p0.cols))))), (95, (vI (ln p0.cols))), (94, (vI x10))]
   refine st 3 a37 (nx ?_)
   refine cd h (fun h => ?_) fun h => ?_
   refine ki (xi (si (bi (so ?_))))
   let a38 : St := a37.p [(101, (vI x10)), (100, (.d (.sl 1 (p0.cols.map cStr)))), (99, (.ptr 1 9))]
   refine st 3 a38 (vs (fun (y : (List UInt8)) => (.rp [(.s (bs y))])) h (fun y hy => via (l := p0.cols) (f := cStr) (g := cStr) (k := .i64) hy (fun _ => rfl)) fun y20 h => ?_)
   let a39 : St := a38.p [(103, (vS y20)), (102, (.rp [(.s (bs y20))]))]
   refine st 1 a39 (cs h (OK_sNameOk y20) fun y21 h => ?_)
   let a40 : St := a39.p [(105, (vB (!y21))), (104, (vB y21))]
   refine st 1 a40 (nx ?_)
   refine cd h (fun h => ?_) fun h => ?_
   refine so ?_
   let a41 : St := a40.p [(2, (vB false))]
   refine st 1 a41 (nx (ri (br (tr (tr (br (tr (br (tr ?_)))))))))
   injection h with h; subst h
   exact r1 (v := (vB false))
   refine ki (bn (xi (oi ?_)))
   let a42 : St := a40.p [(10, (vI (IntKind.wrap .i64 (x10 + 1)))), (98, (vI (IntKind.wrap .i64 (x10 + 1)))), (97, (vI x10))]
   refine st 3 a42 (ni ?_)
   exact loop_back (s' := stsL8Shape_L1 y1 y2 p0 (IntKind.wrap .i64 (x10 + 1))) (wr [] (es (es (es (es (es (es (es (es er_nil)))))))) (bs_ br_nil)) (OK_sL8Shape_L1 (IntKind.wrap .i64 (x10 + 1)) _ h)
   refine ei (te (te (bh (xi (so ?_)))))
   let a43 : St := a37.p [(107, (vB y1)), (106, (vB y1))]
   refine st 2 a43 (gp true y1 (vB y2) (fun hc => vl) (vs (fun (y : Bool) => (vB y)) h (fun y hy => vop_pickV hy (p := (true && (y1 == true))) (q := true) (by kernel_rfl) (by kernel_rfl) (by kernel_rfl) (by kernel_rfl) (fun hb => gc_t rfl hb) (fun _ => rfl)) fun y22 h => ?_))
   let a44 : St := a43.p [(110, (vB y22)), (109, (vB y22)), (108, (.ite (gT y1) (vB y2)))]
   refine st 1 a44 (gp true y22 (vI (ln p0.rows)) (fun hc => vl) (gp true y22 (vB (decide ((ln p0.rows) = 0))) (fun hc => vg hc) (vs (fun (y : Bool) => (vB y)) h (fun y hy => vop_pickV hy (p := (true && (y22 == true))) (q := true) (by kernel_rfl) (by kernel_rfl) (by kernel_rfl) (by kernel_rfl) (fun hb => gc_t rfl hb) (fun _ => rfl)) fun y23 h => ?_)))
   let a45 : St := a44.p [(114, (vB y23)), (113, (vB y23)), (112, (.ite (gT y22) (vB (decide ((ln p0.rows) = 0))))), (111, (.ite (gT y22) (vI (ln p0.rows))))]
   refine st 1 a45 (gp true y23 (vI (ln p0.cols)) (fun hc => vl) ?_)
   refine gcall_step (p := true) (b := y23) (m := sL1In (ln p0.cols) 1 12) (dflt := default) (args := [(vI (ln p0.cols)), (vI 1), (vI 12)]) (v' := (fun y => (vB y))) h (by kernel_rfl) (OK_sL1In (ln p0.cols) 1 12) (fun hc => by kernel_rfl) (by kernel_rfl) (fun _ => rfl) (fun hc => (Eq.trans (b := ([(true && (y23 == true))] : List Bool).all id) (by kernel_rfl) (all_c hc rfl))) ?_
   clear h; intro y24 h
   refine vs (fun (y : Bool) => (vB y)) h (fun y hy => vop_pickV hy (p := (true && (y23 == true))) (q := true) (by kernel_rfl) (by kernel_rfl) (by kernel_rfl) (by kernel_rfl) (fun hb => gc_t rfl hb) (fun _ => rfl)) fun y25 h => ?_
   let a46 : St := a45.p [(118, (vB y25)), (117, (vB y25)), (116, (.ite (gT y23) (vB y24))), (115, (.ite (gT y23) (vI (ln p0.cols))))]
   refine st 1 a46 (gp true y25 (vI (ln p0.sets)) (fun hc => vl) (gp true y25 (vI (ln p0.cols)) (fun hc => vl) (gp true y25 (vB (decide ((ln p0.sets) = (ln p0.cols)))) (fun hc => vop_val1 (Eq.trans (b := ([(true && (y25 == true)), (true && (y25 == true))] : List Bool).all id) (by kernel_rfl) (all_c hc (all_c hc rfl))) (by kernel_rfl)) ?_)))
   refine vs (fun (y : Bool) => (vB y)) h (fun y hy => vop_pickV hy (p := (true && (y25 == true))) (q := true) (by kernel_rfl) (by kernel_rfl) (by kernel_rfl) (by kernel_rfl) (fun hb => gc_t rfl hb) (fun _ => rfl)) fun y26 h => ?_
   let a47 : St := a46.p [(123, (vB y26)), (122, (vB y26)), (121, (.ite (gT y25) (vB (decide ((ln p0.sets) = (ln p0.cols)))))), (120, (.ite (gT y25) (vI (ln p0.cols)))), (119, (.ite (gT y25) (vI (ln p0.sets))))]
   refine st 1 a47 (gp true y26 (vI (ln p0.where_)) (fun hc => vl) (gp true y26 (vB (decide ((ln p0.where_) ≤ 1))) (fun hc => vg hc) (vs (fun (y : Bool) => (vB y)) h (fun y hy => vop_pickV hy (p := (true && (y26 == true))) (q := true) (by kernel_rfl) (by kernel_rfl) (by kernel_rfl) (by kernel_rfl) (fun hb => gc_t rfl hb) (fun _ => rfl)) fun y27 h => ?_)))
   let a48 : St := a47.p [(127, (vB y27)), (126, (vB y27)), (125, (.ite (gT y26) (vB (decide ((ln p0.where_) ≤ 1))))), (124, (.ite (gT y26) (vI (ln p0.where_))))]
   refine st 1 a48 (gp true y27 (.ptr 1 10) (fun hc => vl) (gp true y27 (.d (.sl 10 (p0.sets.map cGExpr))) (fun hc => vg hc) ?_))
   refine gcall_step (p := true) (b := y27) (m := sL8All p0.sets) (dflt := default) (args := [(.d (.sl 10 (p0.sets.map cGExpr)))]) (v' := (fun y => (vB y))) h (by kernel_rfl) (OK_sL8All p0.sets) (fun hc => by kernel_rfl) (by kernel_rfl) (fun _ => rfl) (fun hc => (Eq.trans (b := ([(true && (y27 == true))] : List Bool).all id) (by kernel_rfl) (all_c hc rfl))) ?_
   clear h; intro y28 h
   refine vs (fun (y : Bool) => (vB y)) h (fun y hy => vop_pickV hy (p := (true && (y27 == true))) (q := true) (by kernel_rfl) (by kernel_rfl) (by kernel_rfl) (by kernel_rfl) (fun hb => gc_t rfl hb) (fun _ => rfl)) fun y29 h => ?_
   let a49 : St := a48.p [(132, (vB y29)), (131, (vB y29)), (130, (.ite (gT y27) (vB y28))), (129, (.ite (gT y27) (.d (.sl 10 (p0.sets.map cGExpr))))), (128, (.ite (gT y27) (.ptr 1 10)))]
   refine st 1 a49 (gp true y29 (.ptr 1 11) (fun hc => vl) (gp true y29 (.d (.sl 10 (p0.where_.map cGExpr))) (fun hc => vg hc) ?_))
   refine gcall_step (p := true) (b := y29) (m := sL8All p0.where_) (dflt := default) (args := [(.d (.sl 10 (p0.where_.map cGExpr)))]) (v' := (fun y => (vB y))) h (by kernel_rfl) (OK_sL8All p0.where_) (fun hc => by kernel_rfl) (by kernel_rfl) (fun _ => rfl) (fun hc => (Eq.trans (b := ([(true && (y29 == true))] : List Bool).all id) (by kernel_rfl) (all_c hc rfl))) ?_
   clear h; intro y30 h
   refine vs (fun (y : Bool) => (vB y)) h (fun y hy => vop_pickV hy (p := (true && (y29 == true))) (q := true) (by kernel_rfl) (by kernel_rfl) (by kernel_rfl) (by kernel_rfl) (fun hb => gc_t rfl hb) (fun _ => rfl)) fun y31 h => ?_
   let a50 : St := a49.p [(2, (vB y31)), (136, (vB y31)), (135, (.ite (gT y29) (vB y30))), (134, (.ite (gT y29) (.d (.sl 10 (p0.where_.map cGExpr))))), (133, (.ite (gT y29) (.ptr 1 11)))]
   refine st 1 a50 (nx (ri (br (tr ?_))))
   injection h with h; subst h
   exact r1 (v := (vB y31))
theorem OK_sL8Shape_L1 (y1 : Bool) (y2 : Bool) (p0 : GStmt) (x10 : Int) (r : Bool) (h : sL8Shape_L1 y1 y2 p0 x10 = some r) : avc Tryz.prog acsL8Shape_L1 (qsL8Shape_5 r) (stsL8Shape_L1 y1 y2 p0 x10) := (OKs_sL8Shape_L1 y1 y2 p0) x10 r h
theorem OKs_sSizeOf_L1 : (∀ (p0 : GExpr) (x3_3 : Int) (x5 : Int) (r : Int), sSizeOf_L1 p0 x3_3 x5 = some r → avc Tryz.prog acsSizeOf_L1 (qsSizeOf_3 r) (stsSizeOf_L1 p0 x3_3 x5)) ∧ (∀ (p0 : GQuery) (r : Int), sQuerySize p0 = some r → ACalls Tryz.prog 84 [(vGQuery p0)] [] fun x _ => x = (fun y => (vI y)) r) ∧ (∀ (y1 : (List GExpr)) (x3 : Int) (x5 : Int) (r : Int), sQuerySize_L0 y1 x3 x5 = some r → avc Tryz.prog acsQuerySize_L0 (qsQuerySize_1 r) (stsQuerySize_L0 y1 x3 x5)) ∧ (∀ (p0 : GExpr) (r : Int), sSizeOf p0 = some r → ACalls Tryz.prog 48 [(vGExpr p0)] [] fun x _ => x = (fun y => (vI y)) r) ∧ (∀ (p0 : GExpr) (x3 : Int) (x4 : Int) (r : Int), sSizeOf_L0 p0 x3 x4 = some r → avc Tryz.prog acsSizeOf_L0 (qsSizeOf_1 r) (stsSizeOf_L0 p0 x3 x4)) := by
 refine sSizeOf_L1.mutual_partial_correctness (fun p0 x3_3 x5 r => avc Tryz.prog acsSizeOf_L1 (qsSizeOf_3 r) (stsSizeOf_L1 p0 x3_3 x5)) (fun p0 r => ACalls Tryz.prog 84 [(vGQuery p0)] [] fun x _ => x = (fun y => (vI y)) r) (fun y1 x3 x5 r => avc Tryz.prog acsQuerySize_L0 (qsQuerySize_1 r) (stsQuerySize_L0 y1 x3 x5)) (fun p0 r => ACalls Tryz.prog 48 [(vGExpr p0)] [] fun x _ => x = (fun y => (vI y)) r) (fun p0 x3 x4 r => avc Tryz.prog acsSizeOf_L0 (qsSizeOf_1 r) (stsSizeOf_L0 p0 x3 x4)) ?_ ?_ ?_ ?_ ?_
 · intro F_sSizeOf_L1 F_sQuerySize OK_sSizeOf_L1 OK_sQuerySize p0 x3_3 x5 r h
   delta acsSizeOf_L1
   refine loop_unroll (si (so ?_))
   let a10 : St := (stsSizeOf_L1 p0 x3_3 x5).p [(23, (.d (.sl 6 (p0.sub.map cGQuery)))), (22, (.ptr 1 9)), (21, (vI x5))]
   refine st 3 a10 (ps (vI (ln p0.sub)) (vln (sz := 6) (l := p0.sub) (f := cGQuery)) ?_)
   let a11 : St := a10.p [(25, (vB (decide (x5 < (ln p0.sub))))), (24, (vI (ln p0.sub)))]
   refine st 1 a11 (nx ?_)
   refine cd h (fun h => ?_) fun h => ?_
   refine ki (xi (si (bi (oi ?_))))
   let a12 : St := a11.p [(31, (vI x5)), (30, (.d (.sl 6 (p0.sub.map cGQuery)))), (29, (.ptr 1 9)), (28, (vI x3_3))]
   refine st 4 a12 (vs (fun (y : GQuery) => (.rp (oGQuery y))) h (fun y hy => via (l := p0.sub) (f := cGQuery) (g := oGQuery) (k := .i64) hy cGQuery_eq) fun y4 h => ?_)
   let a13 : St := a12.p [(33, (vGQuery y4)), (32, (.rp (oGQuery y4)))]
   refine st 1 a13 (cs h (OK_sQuerySize y4) fun y5 h => ?_)
   let a14 : St := a13.p [(3, (vI (IntKind.wrap .i64 (x3_3 + y5)))), (35, (vI (IntKind.wrap .i64 (x3_3 + y5)))), (34, (vI y5))]
   refine st 2 a14 (ni (bn (xi (oi ?_))))
   let a15 : St := a14.p [(5, (vI (IntKind.wrap .i64 (x5 + 1)))), (27, (vI (IntKind.wrap .i64 (x5 + 1)))), (26, (vI x5))]
   exact st 3 a15 (ni (loop_back (s' := stsSizeOf_L1 p0 (IntKind.wrap .i64 (x3_3 + y5)) (IntKind.wrap .i64 (x5 + 1))) (wr [] (es (es (es er_nil))) (bs_ br_nil)) (OK_sSizeOf_L1 p0 (IntKind.wrap .i64 (x3_3 + y5)) (IntKind.wrap .i64 (x5 + 1)) _ h)))
   refine ei (te (te (bh (xi (so ?_)))))
   let a16 : St := a11.p [(2, (vI x3_3)), (36, (vI x3_3))]
   refine st 2 a16 (nx (ri ?_))
   injection h with h; subst h
   exact r1 (v := (vI x3_3))
 · intro F_sQuerySize_L0 OK_sQuerySize_L0 p0 r h
   refine aof trsQuerySize ?_
   show avc Tryz.prog acsQuerySize (qsQuerySize _) ⟨[(0, (vGQuery p0))], []⟩
   delta acsQuerySize
   refine so ?_
   let a0 : St := ⟨[(2, (vI 0)), (1, (.ptr 1 0)), (0, (vGQuery p0))], [(1, bGQuery p0)]⟩
   refine st 2 a0 (nx (so ?_))
   let a1 : St := a0.p [(3, (vI 0))]
   refine st 1 a1 (nx (so ?_))
   let a2 : St := a1.p [(6, (vGQuery p0))]
   refine st 1 a2 (callg_step ⟨[], [], [], [], [], [(2000000, 7)], [], [7]⟩ (m := sL7Exprs p0) (S' := fun (y : (List GExpr)) => ⟨(7, (.osl 7 82 10 (y.map cGExpr))) :: a2.env, a2.bx⟩) h (OK_sL7Exprs p0) (by kernel_rfl) (by kernel_rfl) (by kernel_rfl) (by kernel_rfl) (fun y => by kernel_rfl) (fun y => by kernel_rfl) ?_)
   clear h; intro y1 h
   let a3 : St := a2.p [(4, (.osl 4 82 10 (y1.map cGExpr))), (7, (.d (.sl 10 (y1.map cGExpr))))]
   refine st 1 a3 (nx (si (so ?_)))
   let a4 : St := a3.p [(5, (vI 0))]
   exact st 1 a4 (nx (bi (loop_go (s' := stsQuerySize_L0 y1 0 0) (wr [(4, .old 4)] (es (eo 4 (es er_nil))) br_nil) (OK_sQuerySize_L0 y1 0 0 _ h))))
 · intro F_sQuerySize_L0 F_sSizeOf OK_sQuerySize_L0 OK_sSizeOf y1 x3 x5 r h
   delta acsQuerySize_L0
   refine loop_unroll (si (so ?_))
   let a5 : St := (stsQuerySize_L0 y1 x3 x5).p [(9, (.osl 4 82 10 (y1.map cGExpr))), (8, (vI x5))]
   refine st 2 a5 (ps (vI (ln y1)) (vln (sz := 10) (l := y1) (f := cGExpr)) ?_)
   let a6 : St := a5.p [(11, (vB (decide (x5 < (ln y1))))), (10, (vI (ln y1)))]
   refine st 1 a6 (nx ?_)
   refine cd h (fun h => ?_) fun h => ?_
   refine ki (xi (si (bi (oi ?_))))
   let a7 : St := a6.p [(16, (vI x5)), (15, (.osl 4 82 10 (y1.map cGExpr))), (14, (vI x3))]
   refine st 3 a7 (vs (fun (y : GExpr) => (.rp (oGExpr y))) h (fun y hy => via (l := y1) (f := cGExpr) (g := oGExpr) (k := .i64) hy cGExpr_eq) fun y2 h => ?_)
   let a8 : St := a7.p [(18, (vGExpr y2)), (17, (.rp (oGExpr y2)))]
   refine st 1 a8 (cs h (OK_sSizeOf y2) fun y3 h => ?_)
   let a9 : St := a8.p [(3, (vI (IntKind.wrap .i64 (x3 + y3)))), (20, (vI (IntKind.wrap .i64 (x3 + y3)))), (19, (vI y3))]
   refine st 2 a9 (ni (bn (xi (oi ?_))))
   let a10 : St := a9.p [(5, (vI (IntKind.wrap .i64 (x5 + 1)))), (13, (vI (IntKind.wrap .i64 (x5 + 1)))), (12, (vI x5))]
   exact st 3 a10 (ni (loop_back (s' := stsQuerySize_L0 y1 (IntKind.wrap .i64 (x3 + y3)) (IntKind.wrap .i64 (x5 + 1))) (wr [(4, .old 4)] (es (eo 4 (es er_nil))) br_nil) (OK_sQuerySize_L0 y1 (IntKind.wrap .i64 (x3 + y3)) (IntKind.wrap .i64 (x5 + 1)) _ h)))
   refine ei (te (te (bh (xi (so ?_)))))
   let a11 : St := a6.p [(2, (vI x3)), (21, (vI x3))]
   refine st 2 a11 (nx (ri ?_))
   injection h with h; subst h
   exact r1 (v := (vI x3))
 · intro F_sSizeOf_L0 OK_sSizeOf_L0 p0 r h
   refine aof trsSizeOf ?_
   show avc Tryz.prog acsSizeOf (qsSizeOf _) ⟨[(0, (vGExpr p0))], []⟩
   delta acsSizeOf
   refine so ?_
   let a0 : St := ⟨[(2, (vI 0)), (1, (.ptr 1 0)), (0, (vGExpr p0))], [(1, bGExpr p0)]⟩
   refine st 2 a0 (nx (so ?_))
   let a1 : St := a0.p [(3, (vI 1))]
   refine st 1 a1 (nx (si (so ?_)))
   let a2 : St := a1.p [(4, (vI 0))]
   exact st 1 a2 (nx (bi (loop_go (s' := stsSizeOf_L0 p0 1 0) (wr [] (es (es (es er_nil))) (bs_ br_nil)) (OK_sSizeOf_L0 p0 1 0 _ h))))
 · intro F_sSizeOf_L1 F_sSizeOf F_sSizeOf_L0 OK_sSizeOf_L1 OK_sSizeOf OK_sSizeOf_L0 p0 x3 x4 r h
   delta acsSizeOf_L0
   refine loop_unroll (si (so ?_))
   let a3 : St := (stsSizeOf_L0 p0 x3 x4).p [(8, (.d (.sl 10 (p0.kids.map cGExpr)))), (7, (.ptr 1 8)), (6, (vI x4))]
   refine st 3 a3 (ps (vI (ln p0.kids)) (vln (sz := 10) (l := p0.kids) (f := cGExpr)) ?_)
   let a4 : St := a3.p [(10, (vB (decide (x4 < (ln p0.kids))))), (9, (vI (ln p0.kids)))]
   refine st 1 a4 (nx ?_)
   refine cd h (fun h => ?_) fun h => ?_
   refine ki (xi (si (bi (oi ?_))))
   let a5 : St := a4.p [(16, (vI x4)), (15, (.d (.sl 10 (p0.kids.map cGExpr)))), (14, (.ptr 1 8)), (13, (vI x3))]
   refine st 4 a5 (vs (fun (y : GExpr) => (.rp (oGExpr y))) h (fun y hy => via (l := p0.kids) (f := cGExpr) (g := oGExpr) (k := .i64) hy cGExpr_eq) fun y1 h => ?_)
   let a6 : St := a5.p [(18, (vGExpr y1)), (17, (.rp (oGExpr y1)))]
   refine st 1 a6 (cs h (OK_sSizeOf y1) fun y2 h => ?_)
   let a7 : St := a6.p [(3, (vI (IntKind.wrap .i64 (x3 + y2)))), (20, (vI (IntKind.wrap .i64 (x3 + y2)))), (19, (vI y2))]
   refine st 2 a7 (ni (bn (xi (oi ?_))))
   let a8 : St := a7.p [(4, (vI (IntKind.wrap .i64 (x4 + 1)))), (12, (vI (IntKind.wrap .i64 (x4 + 1)))), (11, (vI x4))]
   exact st 3 a8 (ni (loop_back (s' := stsSizeOf_L0 p0 (IntKind.wrap .i64 (x3 + y2)) (IntKind.wrap .i64 (x4 + 1))) (wr [] (es (es (es er_nil))) (bs_ br_nil)) (OK_sSizeOf_L0 p0 (IntKind.wrap .i64 (x3 + y2)) (IntKind.wrap .i64 (x4 + 1)) _ h)))
   refine ei (te (te (bh (xi (si (so ?_))))))
   let a9 : St := a4.p [(5, (vI 0))]
   exact st 1 a9 (nx (bi (loop_go (s' := stsSizeOf_L1 p0 x3 0) (wr [] (es (es (es er_nil))) (bs_ br_nil)) (OK_sSizeOf_L1 p0 x3 0 _ h))))
theorem OK_sSizeOf_L1 (p0 : GExpr) (x3_3 : Int) (x5 : Int) (r : Int) (h : sSizeOf_L1 p0 x3_3 x5 = some r) : avc Tryz.prog acsSizeOf_L1 (qsSizeOf_3 r) (stsSizeOf_L1 p0 x3_3 x5) := (OKs_sSizeOf_L1).1 p0 x3_3 x5 r h
theorem OK_sQuerySize (p0 : GQuery) : FOk Tryz.prog 84 [(vGQuery p0)] (fun y => (vI y)) (sQuerySize p0) := fun r h => (OKs_sSizeOf_L1).2.1 p0 r h
theorem OK_sQuerySize_L0 (y1 : (List GExpr)) (x3 : Int) (x5 : Int) (r : Int) (h : sQuerySize_L0 y1 x3 x5 = some r) : avc Tryz.prog acsQuerySize_L0 (qsQuerySize_1 r) (stsQuerySize_L0 y1 x3 x5) := (OKs_sSizeOf_L1).2.2.1 y1 x3 x5 r h
theorem OK_sSizeOf (p0 : GExpr) : FOk Tryz.prog 48 [(vGExpr p0)] (fun y => (vI y)) (sSizeOf p0) := fun r h => (OKs_sSizeOf_L1).2.2.2.1 p0 r h
theorem OK_sSizeOf_L0 (p0 : GExpr) (x3 : Int) (x4 : Int) (r : Int) (h : sSizeOf_L0 p0 x3 x4 = some r) : avc Tryz.prog acsSizeOf_L0 (qsSizeOf_1 r) (stsSizeOf_L0 p0 x3 x4) := (OKs_sSizeOf_L1).2.2.2.2 p0 x3 x4 r h
theorem OK_sQueryOk (p0 : GQuery) : FOk Tryz.prog 42 [(vGQuery p0)] (fun y => (vB y)) (sQueryOk p0) := by
 intro r h
 rw [sQueryOk] at h
 refine aof trsQueryOk ?_
 show avc Tryz.prog acsQueryOk (qsQueryOk _) ⟨[(0, (vGQuery p0))], []⟩
 delta acsQueryOk
 refine so ?_
 let a0 : St := ⟨[(2, (vB false)), (1, (.ptr 1 0)), (0, (vGQuery p0))], [(1, bGQuery p0)]⟩
 refine st 2 a0 (nx (so ?_))
 let a1 : St := a0.p [(3, (vGQuery p0))]
 refine st 1 a1 (cs h (OK_sL7RightQuery p0) fun y1 h => ?_)
 let a2 : St := a1.p [(5, (vB y1)), (4, (vB y1))]
 refine st 1 a2 (gp true y1 (vGQuery p0) (fun hc => vl) (gcall_step (p := true) (b := y1) (m := sQueryDepth p0) (dflt := default) (args := [(vGQuery p0)]) (v' := (fun y => (vI y))) h (by kernel_rfl) (OK_sQueryDepth p0) (fun hc => by kernel_rfl) (by kernel_rfl) (fun _ => rfl) (fun hc => (Eq.trans (b := ([(true && (y1 == true))] : List Bool).all id) (by kernel_rfl) (all_c hc rfl))) ?_))
 clear h; intro y2 h
 refine gp true y1 (vB (decide (y2 ≤ 24))) (fun hc => vg hc) (vs (fun (y : Bool) => (vB y)) h (fun y hy => vop_pickV hy (p := (true && (y1 == true))) (q := true) (by kernel_rfl) (by kernel_rfl) (by kernel_rfl) (by kernel_rfl) (fun hb => gc_t rfl hb) (fun _ => rfl)) fun y3 h => ?_)
 let a3 : St := a2.p [(10, (vB y3)), (9, (vB y3)), (8, (.ite (gT y1) (vB (decide (y2 ≤ 24))))), (7, (.ite (gT y1) (vI y2))), (6, (.ite (gT y1) (vGQuery p0)))]
 refine st 1 a3 (gp true y3 (vGQuery p0) (fun hc => vl) (gcall_step (p := true) (b := y3) (m := sQuerySize p0) (dflt := default) (args := [(vGQuery p0)]) (v' := (fun y => (vI y))) h (by kernel_rfl) (OK_sQuerySize p0) (fun hc => by kernel_rfl) (by kernel_rfl) (fun _ => rfl) (fun hc => (Eq.trans (b := ([(true && (y3 == true))] : List Bool).all id) (by kernel_rfl) (all_c hc rfl))) ?_))
 clear h; intro y4 h
 refine gp true y3 (vB (decide (y4 ≤ 200))) (fun hc => vg hc) (vs (fun (y : Bool) => (vB y)) h (fun y hy => vop_pickV hy (p := (true && (y3 == true))) (q := true) (by kernel_rfl) (by kernel_rfl) (by kernel_rfl) (by kernel_rfl) (fun hb => gc_t rfl hb) (fun _ => rfl)) fun y5 h => ?_)
 let a4 : St := a3.p [(2, (vB y5)), (14, (vB y5)), (13, (.ite (gT y3) (vB (decide (y4 ≤ 200))))), (12, (.ite (gT y3) (vI y4))), (11, (.ite (gT y3) (vGQuery p0)))]
 refine st 1 a4 (nx (ri ?_))
 injection h with h; subst h
 exact r1 (v := (vB y5))
theorem OK_sL8Shape (p0 : GStmt) : FOk Tryz.prog 13 [(vGStmt p0)] (fun y => (vB y)) (sL8Shape p0) := by
 intro r h
 rw [sL8Shape] at h
 refine aof trsL8Shape ?_
 show avc Tryz.prog acsL8Shape (qsL8Shape _) ⟨[(0, (vGStmt p0))], []⟩
 delta acsL8Shape
 refine so ?_
 let a0 : St := ⟨[(2, (vB false)), (1, (.ptr 1 0)), (0, (vGStmt p0))], [(1, bGStmt p0)]⟩
 refine st 2 a0 (nx (so ?_))
 let a1 : St := a0.p [(13, (vGQuery (GQuery.mk false ([] : List GItem) ([] : List GSource) ([] : List GExpr) ([] : List GSortKey) 0))), (12, (vGQuery p0.query)), (11, (.ptr 1 1))]
 refine st 3 a1 (cs h (OK_sSameQuery p0.query (GQuery.mk false ([] : List GItem) ([] : List GSource) ([] : List GExpr) ([] : List GSortKey) 0)) fun y1 h => ?_)
 let a2 : St := a1.p [(3, (vB y1)), (14, (vB y1))]
 refine st 1 a2 (nx (so ?_))
 let a3 : St := a2.p [(16, (vS p0.table)), (15, (.ptr 1 7))]
 refine st 2 a3 (cs h (OK_sNameOk p0.table) fun y2 h => ?_)
 let a4 : St := a3.p [(4, (vB y2)), (17, (vB y2))]
 refine st 1 a4 (nx (si (dops_in ?_)))
 let a5 : St := a4.p [(19, (.d (.sl 1 (p0.rows.map (cSl 10 cGExpr))))), (18, (.ptr 1 8))]
 refine dsts_ok 2 (s' := a5) (by kernel_rfl) (dp_step (v' := (vI (ln p0.rows))) rfl rfl (vln (sz := 1) (l := p0.rows) (f := (cSl 10 cGExpr))) ?_)
 let a6 : St := a5.p [(22, (.d (.sl 1 (p0.cols.map cStr)))), (21, (.ptr 1 9)), (20, (vI (ln p0.rows)))]
 refine dsts_ok 2 (s' := a6) (by kernel_rfl) (dp_step (v' := (vI (ln p0.cols))) rfl rfl (vln (sz := 1) (l := p0.cols) (f := cStr)) ?_)
 let a7 : St := a6.p [(25, (.d (.sl 10 (p0.sets.map cGExpr)))), (24, (.ptr 1 10)), (23, (vI (ln p0.cols)))]
 refine dsts_ok 2 (s' := a7) (by kernel_rfl) (dp_step (v' := (vI (ln p0.sets))) rfl rfl (vln (sz := 10) (l := p0.sets) (f := cGExpr)) ?_)
 let a8 : St := a7.p [(28, (.d (.sl 10 (p0.where_.map cGExpr)))), (27, (.ptr 1 11)), (26, (vI (ln p0.sets)))]
 refine dsts_ok 2 (s' := a8) (by kernel_rfl) (dp_step (v' := (vI (ln p0.where_))) rfl rfl (vln (sz := 10) (l := p0.where_) (f := cGExpr)) ?_)
 let a9 : St := a8.p [(8, (vI (ln p0.where_))), (7, (vI (ln p0.sets))), (6, (vI (ln p0.cols))), (5, (vI (ln p0.rows))), (29, (vI (ln p0.where_)))]
 refine dsts_ok 4 (s' := a9) (by kernel_rfl) (dnil_in (by kernel_rfl) (by kernel_rfl) (xi (si (so ?_))))
 let a10 : St := a9.p [(31, (vI p0.kind)), (30, (.ptr 1 0))]
 refine st 2 a10 (nx (bi (so ?_)))
 let a11 : St := a10.p [(32, (vB (decide (p0.kind = 1)))), (33, (vB (decide (p0.kind = 1))))]
 refine st 2 a11 (nx ?_)
 refine cd h (fun h => ?_) fun h => ?_
 refine so ?_
 let a12 : St := a11.p [(35, (vGQuery p0.query)), (34, (.ptr 1 1))]
 refine st 2 a12 (cs h (OK_sQueryOk p0.query) fun y3 h => ?_)
 let a13 : St := a12.p [(37, (vB y3)), (36, (vB y3))]
 refine st 1 a13 (gp true y3 (.ptr 1 7) (fun hc => vl) (gp true y3 (vS p0.table) (fun hc => vg hc) (gp true y3 (vB (decide (p0.table = []))) (fun hc => vg hc) (vs (fun (y : Bool) => (vB y)) h (fun y hy => vop_pickV hy (p := (true && (y3 == true))) (q := true) (by kernel_rfl) (by kernel_rfl) (by kernel_rfl) (by kernel_rfl) (fun hb => gc_t rfl hb) (fun _ => rfl)) fun y4 h => ?_))))
 let a14 : St := a13.p [(42, (vB y4)), (41, (vB y4)), (40, (.ite (gT y3) (vB (decide (p0.table = []))))), (39, (.ite (gT y3) (vS p0.table))), (38, (.ite (gT y3) (.ptr 1 7)))]
 refine st 1 a14 (gp true y4 (vI (ln p0.rows)) (fun hc => vl) (gp true y4 (vI (ln p0.cols)) (fun hc => vl) (gp true y4 (vI (IntKind.wrap .i64 ((ln p0.rows) + (ln p0.cols)))) (fun hc => vop_val1 (Eq.trans (b := ([(true && (y4 == true)), (true && (y4 == true))] : List Bool).all id) (by kernel_rfl) (all_c hc (all_c hc rfl))) (by kernel_rfl)) ?_)))
 refine gp true y4 (vI (ln p0.sets)) (fun hc => vl) (gp true y4 (vI (IntKind.wrap .i64 ((IntKind.wrap .i64 ((ln p0.rows) + (ln p0.cols))) + (ln p0.sets)))) (fun hc => vop_val1 (Eq.trans (b := ([(true && (y4 == true)), (true && (y4 == true))] : List Bool).all id) (by kernel_rfl) (all_c hc (all_c hc rfl))) (by kernel_rfl)) ?_)
 refine gp true y4 (vI (ln p0.where_)) (fun hc => vl) ?_
 refine gp true y4 (vI (IntKind.wrap .i64 ((IntKind.wrap .i64 ((IntKind.wrap .i64 ((ln p0.rows) + (ln p0.cols))) + (ln p0.sets))) + (ln p0.where_)))) (fun hc => vop_val1 (Eq.trans (b := ([(true && (y4 == true)), (true && (y4 == true))] : List Bool).all id) (by kernel_rfl) (all_c hc (all_c hc rfl))) (by kernel_rfl)) ?_
 refine gp true y4 (vB (decide ((IntKind.wrap .i64 ((IntKind.wrap .i64 ((IntKind.wrap .i64 ((ln p0.rows) + (ln p0.cols))) + (ln p0.sets))) + (ln p0.where_))) = 0))) (fun hc => vg hc) ?_
 refine vs (fun (y : Bool) => (vB y)) h (fun y hy => vop_pickV hy (p := (true && (y4 == true))) (q := true) (by kernel_rfl) (by kernel_rfl) (by kernel_rfl) (by kernel_rfl) (fun hb => gc_t rfl hb) (fun _ => rfl)) fun y5 h => ?_
 let a15 : St := a14.p [(2, (vB y5)), (51, (vB y5)), (50, (.ite (gT y4) (vB (decide ((IntKind.wrap .i64 ((IntKind.wrap .i64 ((IntKind.wrap .i64 ((ln p0.rows) + (ln p0.cols))) + (ln p0.sets))) + (ln p0.where_))) = 0))))), (49, (.ite (gT y4) (vI (IntKind.wrap .i64 ((IntKind.wrap .i64 ((IntKind.wrap .i64 ((ln p0.rows) + (ln p0.cols))) + (ln p0.sets))) + (ln p0.where_)))))), (48, (.ite (gT y4) (vI (ln p0.where_)))), (47, (.ite (gT y4) (vI (IntKind.wrap .i64 ((IntKind.wrap .i64 ((ln p0.rows) + (ln p0.cols))) + (ln p0.sets)))))), (46, (.ite (gT y4) (vI (ln p0.sets)))), (45, (.ite (gT y4) (vI (IntKind.wrap .i64 ((ln p0.rows) + (ln p0.cols)))))), (44, (.ite (gT y4) (vI (ln p0.cols)))), (43, (.ite (gT y4) (vI (ln p0.rows))))]
 refine st 1 a15 (nx (ri (br (tr ?_))))
 injection h with h; subst h
 exact r1 (v := (vB y5))
 refine so ?_
 let a16 : St := a11.p [(52, (vB (decide (p0.kind = 2)))), (53, (vB (decide (p0.kind = 2))))]
 refine st 2 a16 (nx ?_)
 refine cd h (fun h => ?_) fun h => ?_
 refine si (so ?_)
 let a17 : St := a16.p [(9, (vI 0))]
 refine st 1 a17 (nx (bi ?_))
 exact loop_go (s' := stsL8Shape_L0 y1 y2 p0 0) (wr [] (es (es (es (es (es (es (es (es er_nil)))))))) (bs_ br_nil)) (OK_sL8Shape_L0 y1 y2 p0 0 _ h)
 refine so ?_
 let a18 : St := a16.p [(92, (vB (decide (p0.kind = 3)))), (93, (vB (decide (p0.kind = 3))))]
 refine st 2 a18 (nx ?_)
 refine cd h (fun h => ?_) fun h => ?_
 refine si (so ?_)
 let a19 : St := a18.p [(10, (vI 0))]
 refine st 1 a19 (nx (bi ?_))
 exact loop_go (s' := stsL8Shape_L1 y1 y2 p0 0) (wr [] (es (es (es (es (es (es (es (es er_nil)))))))) (bs_ br_nil)) (OK_sL8Shape_L1 y1 y2 p0 0 _ h)
 refine so ?_
 let a20 : St := a18.p [(137, (vB (decide (p0.kind = 4)))), (138, (vB (decide (p0.kind = 4))))]
 refine st 2 a20 (nx ?_)
 refine cd h (fun h => ?_) fun h => ?_
 refine so ?_
 let a21 : St := a20.p [(140, (vB y1)), (139, (vB y1))]
 refine st 2 a21 (gp true y1 (vB y2) (fun hc => vl) (vs (fun (y : Bool) => (vB y)) h (fun y hy => vop_pickV hy (p := (true && (y1 == true))) (q := true) (by kernel_rfl) (by kernel_rfl) (by kernel_rfl) (by kernel_rfl) (fun hb => gc_t rfl hb) (fun _ => rfl)) fun y6 h => ?_))
 let a22 : St := a21.p [(143, (vB y6)), (142, (vB y6)), (141, (.ite (gT y1) (vB y2)))]
 refine st 1 a22 (gp true y6 (vI (ln p0.rows)) (fun hc => vl) (gp true y6 (vI (ln p0.cols)) (fun hc => vl) (gp true y6 (vI (IntKind.wrap .i64 ((ln p0.rows) + (ln p0.cols)))) (fun hc => vop_val1 (Eq.trans (b := ([(true && (y6 == true)), (true && (y6 == true))] : List Bool).all id) (by kernel_rfl) (all_c hc (all_c hc rfl))) (by kernel_rfl)) ?_)))
 refine gp true y6 (vI (ln p0.sets)) (fun hc => vl) (gp true y6 (vI (IntKind.wrap .i64 ((IntKind.wrap .i64 ((ln p0.rows) + (ln p0.cols))) + (ln p0.sets)))) (fun hc => vop_val1 (Eq.trans (b := ([(true && (y6 == true)), (true && (y6 == true))] : List Bool).all id) (by kernel_rfl) (all_c hc (all_c hc rfl))) (by kernel_rfl)) ?_)
 refine gp true y6 (vB (decide ((IntKind.wrap .i64 ((IntKind.wrap .i64 ((ln p0.rows) + (ln p0.cols))) + (ln p0.sets))) = 0))) (fun hc => vg hc) (vs (fun (y : Bool) => (vB y)) h (fun y hy => vop_pickV hy (p := (true && (y6 == true))) (q := true) (by kernel_rfl) (by kernel_rfl) (by kernel_rfl) (by kernel_rfl) (fun hb => gc_t rfl hb) (fun _ => rfl)) fun y7 h => ?_)
 let a23 : St := a22.p [(151, (vB y7)), (150, (vB y7)), (149, (.ite (gT y6) (vB (decide ((IntKind.wrap .i64 ((IntKind.wrap .i64 ((ln p0.rows) + (ln p0.cols))) + (ln p0.sets))) = 0))))), (148, (.ite (gT y6) (vI (IntKind.wrap .i64 ((IntKind.wrap .i64 ((ln p0.rows) + (ln p0.cols))) + (ln p0.sets)))))), (147, (.ite (gT y6) (vI (ln p0.sets)))), (146, (.ite (gT y6) (vI (IntKind.wrap .i64 ((ln p0.rows) + (ln p0.cols)))))), (145, (.ite (gT y6) (vI (ln p0.cols)))), (144, (.ite (gT y6) (vI (ln p0.rows))))]
 refine st 1 a23 (gp true y7 (vI (ln p0.where_)) (fun hc => vl) (gp true y7 (vB (decide ((ln p0.where_) ≤ 1))) (fun hc => vg hc) (vs (fun (y : Bool) => (vB y)) h (fun y hy => vop_pickV hy (p := (true && (y7 == true))) (q := true) (by kernel_rfl) (by kernel_rfl) (by kernel_rfl) (by kernel_rfl) (fun hb => gc_t rfl hb) (fun _ => rfl)) fun y8 h => ?_)))
 let a24 : St := a23.p [(155, (vB y8)), (154, (vB y8)), (153, (.ite (gT y7) (vB (decide ((ln p0.where_) ≤ 1))))), (152, (.ite (gT y7) (vI (ln p0.where_))))]
 refine st 1 a24 (gp true y8 (.ptr 1 11) (fun hc => vl) (gp true y8 (.d (.sl 10 (p0.where_.map cGExpr))) (fun hc => vg hc) ?_))
 refine gcall_step (p := true) (b := y8) (m := sL8All p0.where_) (dflt := default) (args := [(.d (.sl 10 (p0.where_.map cGExpr)))]) (v' := (fun y => (vB y))) h (by kernel_rfl) (OK_sL8All p0.where_) (fun hc => by kernel_rfl) (by kernel_rfl) (fun _ => rfl) (fun hc => (Eq.trans (b := ([(true && (y8 == true))] : List Bool).all id) (by kernel_rfl) (all_c hc rfl))) ?_
 clear h; intro y9 h
 refine vs (fun (y : Bool) => (vB y)) h (fun y hy => vop_pickV hy (p := (true && (y8 == true))) (q := true) (by kernel_rfl) (by kernel_rfl) (by kernel_rfl) (by kernel_rfl) (fun hb => gc_t rfl hb) (fun _ => rfl)) fun y10 h => ?_
 let a25 : St := a24.p [(2, (vB y10)), (159, (vB y10)), (158, (.ite (gT y8) (vB y9))), (157, (.ite (gT y8) (.d (.sl 10 (p0.where_.map cGExpr))))), (156, (.ite (gT y8) (.ptr 1 11)))]
 refine st 1 a25 (nx (ri (br (tr ?_))))
 injection h with h; subst h
 exact r1 (v := (vB y10))
 refine ki (bn (xi (so ?_)))
 let a26 : St := a20.p [(2, (vB false))]
 refine st 1 a26 (nx (ri ?_))
 injection h with h; subst h
 exact r1 (v := (vB false))
theorem OKs_sL8Exprs_L0 (p0 : GStmt) : (∀ (x3 : (List GExpr)) (x4 : Int) (r : (List GExpr)), sL8Exprs_L0 p0 x3 x4 = some r → avc Tryz.prog acsL8Exprs_L0 (qsL8Exprs_1 r) (stsL8Exprs_L0 p0 x3 x4)) := by
 refine sL8Exprs_L0.partial_correctness p0 (fun x3 x4 r => avc Tryz.prog acsL8Exprs_L0 (qsL8Exprs_1 r) (stsL8Exprs_L0 p0 x3 x4)) ?_
 · intro F_sL8Exprs_L0 OK_sL8Exprs_L0 x3 x4 r h
   delta acsL8Exprs_L0
   refine loop_unroll (si (so ?_))
   let a4 : St := (stsL8Exprs_L0 p0 x3 x4).p [(10, (.d (.sl 1 (p0.rows.map (cSl 10 cGExpr))))), (9, (.ptr 1 8)), (8, (vI x4))]
   refine st 3 a4 (ps (vI (ln p0.rows)) (vln (sz := 1) (l := p0.rows) (f := (cSl 10 cGExpr))) ?_)
   let a5 : St := a4.p [(12, (vB (decide (x4 < (ln p0.rows))))), (11, (vI (ln p0.rows)))]
   refine st 1 a5 (nx ?_)
   refine cd h (fun h => ?_) fun h => ?_
   refine ki (xi (si (bi (oi ?_))))
   let a6 : St := a5.p [(18, (vI x4)), (17, (.d (.sl 1 (p0.rows.map (cSl 10 cGExpr))))), (16, (.ptr 1 8)), (15, (.osl 3 82 10 (x3.map cGExpr)))]
   refine st 4 a6 (vs (fun (y : (List GExpr)) => (.rp [(.sl 10 (y.map cGExpr))])) h (fun y hy => via (l := p0.rows) (f := (cSl 10 cGExpr)) (g := (cSl 10 cGExpr)) (k := .i64) hy (fun _ => rfl)) fun y2 h => ?_)
   let a7 : St := a6.p [(20, (.d (.sl 10 (y2.map cGExpr)))), (19, (.rp [(.sl 10 (y2.map cGExpr))]))]
   refine st 1 a7 ?_
   refine app_step (t := 3) (l := x3) (m := y2) (f := cGExpr) (S' := fun y => ⟨[(21, (.osl 21 82 10 (y.map cGExpr))), (20, (.d (.sl 10 (y2.map cGExpr)))), (19, (.rp [(.sl 10 (y2.map cGExpr))])), (18, (vI x4)), (17, (.d (.sl 1 (p0.rows.map (cSl 10 cGExpr))))), (16, (.ptr 1 8)), (15, (.d (.sl 10 (x3.map cGExpr)))), (12, (vB (decide (x4 < (ln p0.rows))))), (11, (vI (ln p0.rows))), (10, (.d (.sl 1 (p0.rows.map (cSl 10 cGExpr))))), (9, (.ptr 1 8)), (8, (vI x4)), (1, (.ptr 1 0)), (3, (.d (.sl 10 (x3.map cGExpr)))), (4, (vI x4))], [(1, bGStmt p0)]⟩) h (by kernel_rfl) (by kernel_rfl) (by kernel_rfl) (by kernel_rfl) (fun y => by kernel_rfl) ?_
   clear h; intro y3 h
   let a8 : St := ⟨[(3, (.osl 3 82 10 (y3.map cGExpr))), (21, (.d (.sl 10 (y3.map cGExpr)))), (20, (.d (.sl 10 (y2.map cGExpr)))), (19, (.rp [(.sl 10 (y2.map cGExpr))])), (18, (vI x4)), (17, (.d (.sl 1 (p0.rows.map (cSl 10 cGExpr))))), (16, (.ptr 1 8)), (15, (.d (.sl 10 (x3.map cGExpr)))), (12, (vB (decide (x4 < (ln p0.rows))))), (11, (vI (ln p0.rows))), (10, (.d (.sl 1 (p0.rows.map (cSl 10 cGExpr))))), (9, (.ptr 1 8)), (8, (vI x4)), (1, (.ptr 1 0)), (3, (.d (.sl 10 (x3.map cGExpr)))), (4, (vI x4))], [(1, bGStmt p0)]⟩
   refine st 1 a8 (ni (bn (xi (oi ?_))))
   let a9 : St := a8.p [(4, (vI (IntKind.wrap .i64 (x4 + 1)))), (14, (vI (IntKind.wrap .i64 (x4 + 1)))), (13, (vI x4))]
   exact st 3 a9 (ni (loop_back (s' := stsL8Exprs_L0 p0 y3 (IntKind.wrap .i64 (x4 + 1))) (wr [(3, .old 3)] (es (eo 3 (es er_nil))) (bs_ br_nil)) (OK_sL8Exprs_L0 y3 (IntKind.wrap .i64 (x4 + 1)) _ h)))
   refine ei (te (te (bh (xi (so ?_)))))
   let a10 : St := a5.p [(24, (.d (.sl 10 (p0.sets.map cGExpr)))), (23, (.ptr 1 10)), (22, (.osl 3 82 10 (x3.map cGExpr)))]
   refine st 3 a10 ?_
   refine app_step (t := 3) (l := x3) (m := p0.sets) (f := cGExpr) (S' := fun y => ⟨[(25, (.osl 25 82 10 (y.map cGExpr))), (24, (.d (.sl 10 (p0.sets.map cGExpr)))), (23, (.ptr 1 10)), (22, (.d (.sl 10 (x3.map cGExpr)))), (12, (vB (decide (x4 < (ln p0.rows))))), (11, (vI (ln p0.rows))), (10, (.d (.sl 1 (p0.rows.map (cSl 10 cGExpr))))), (9, (.ptr 1 8)), (8, (vI x4)), (1, (.ptr 1 0)), (3, (.d (.sl 10 (x3.map cGExpr)))), (4, (vI x4))], [(1, bGStmt p0)]⟩) h (by kernel_rfl) (by kernel_rfl) (by kernel_rfl) (by kernel_rfl) (fun y => by kernel_rfl) ?_
   clear h; intro y4 h
   let a11 : St := ⟨[(3, (.osl 3 82 10 (y4.map cGExpr))), (25, (.d (.sl 10 (y4.map cGExpr)))), (24, (.d (.sl 10 (p0.sets.map cGExpr)))), (23, (.ptr 1 10)), (22, (.d (.sl 10 (x3.map cGExpr)))), (12, (vB (decide (x4 < (ln p0.rows))))), (11, (vI (ln p0.rows))), (10, (.d (.sl 1 (p0.rows.map (cSl 10 cGExpr))))), (9, (.ptr 1 8)), (8, (vI x4)), (1, (.ptr 1 0)), (3, (.d (.sl 10 (x3.map cGExpr)))), (4, (vI x4))], [(1, bGStmt p0)]⟩
   refine st 1 a11 (nx (so ?_))
   let a12 : St := a11.p [(28, (.d (.sl 10 (p0.where_.map cGExpr)))), (27, (.ptr 1 11)), (26, (.osl 3 82 10 (y4.map cGExpr)))]
   refine st 3 a12 ?_
   refine app_step (t := 3) (l := y4) (m := p0.where_) (f := cGExpr) (S' := fun y => ⟨[(29, (.osl 29 82 10 (y.map cGExpr))), (28, (.d (.sl 10 (p0.where_.map cGExpr)))), (27, (.ptr 1 11)), (26, (.d (.sl 10 (y4.map cGExpr)))), (3, (.d (.sl 10 (y4.map cGExpr)))), (25, (.d (.sl 10 (y4.map cGExpr)))), (24, (.d (.sl 10 (p0.sets.map cGExpr)))), (23, (.ptr 1 10)), (22, (.d (.sl 10 (x3.map cGExpr)))), (12, (vB (decide (x4 < (ln p0.rows))))), (11, (vI (ln p0.rows))), (10, (.d (.sl 1 (p0.rows.map (cSl 10 cGExpr))))), (9, (.ptr 1 8)), (8, (vI x4)), (1, (.ptr 1 0)), (3, (.d (.sl 10 (x3.map cGExpr)))), (4, (vI x4))], [(1, bGStmt p0)]⟩) h (by kernel_rfl) (by kernel_rfl) (by kernel_rfl) (by kernel_rfl) (fun y => by kernel_rfl) ?_
   clear h; intro y5 h
   let a13 : St := ⟨[(2, (.osl 2 82 10 (y5.map cGExpr))), (29, (.d (.sl 10 (y5.map cGExpr)))), (28, (.d (.sl 10 (p0.where_.map cGExpr)))), (27, (.ptr 1 11)), (26, (.d (.sl 10 (y4.map cGExpr)))), (3, (.d (.sl 10 (y4.map cGExpr)))), (25, (.d (.sl 10 (y4.map cGExpr)))), (24, (.d (.sl 10 (p0.sets.map cGExpr)))), (23, (.ptr 1 10)), (22, (.d (.sl 10 (x3.map cGExpr)))), (12, (vB (decide (x4 < (ln p0.rows))))), (11, (vI (ln p0.rows))), (10, (.d (.sl 1 (p0.rows.map (cSl 10 cGExpr))))), (9, (.ptr 1 8)), (8, (vI x4)), (1, (.ptr 1 0)), (3, (.d (.sl 10 (x3.map cGExpr)))), (4, (vI x4))], [(1, bGStmt p0)]⟩
   refine st 1 a13 (nx (ret_wk (s' := ⟨[(2, (.osl 2000000 82 10 (y5.map cGExpr)))], []⟩) (wr [(2000000, .old 2)] (eo 2 er_nil) br_nil) ?_))
   injection h with h; subst h
   exact ret1_step (v := (.osl 2000000 82 10 (y5.map cGExpr))) (by kernel_rfl) (by kernel_rfl) ⟨by kernel_rfl, trivial⟩
theorem OK_sL8Exprs_L0 (p0 : GStmt) (x3 : (List GExpr)) (x4 : Int) (r : (List GExpr)) (h : sL8Exprs_L0 p0 x3 x4 = some r) : avc Tryz.prog acsL8Exprs_L0 (qsL8Exprs_1 r) (stsL8Exprs_L0 p0 x3 x4) := (OKs_sL8Exprs_L0 p0) x3 x4 r h
theorem OK_sL8Exprs (p0 : GStmt) : FOkB Tryz.prog 45 [(vGStmt p0)] [] (fun (y : (List GExpr)) => (.osl 2000000 82 10 (y.map cGExpr))) (fun (y : (List GExpr)) => []) (sL8Exprs p0) := by
 intro r h
 rw [sL8Exprs] at h
 refine aof trsL8Exprs ?_
 show avc Tryz.prog acsL8Exprs (qsL8Exprs _) ⟨[(0, (vGStmt p0))], []⟩
 delta acsL8Exprs
 refine so ?_
 let a0 : St := ⟨[(2, (.nil 10)), (1, (.ptr 1 0)), (0, (vGStmt p0))], [(1, bGStmt p0)]⟩
 refine st 2 a0 (nx (so ?_))
 let a1 : St := a0.p [(6, (vGQuery p0.query)), (5, (.ptr 1 1))]
 refine st 2 a1 (callg_step ⟨[], [], [], [], [], [(2000000, 7)], [], [7]⟩ (m := sL7Exprs p0.query) (S' := fun (y : (List GExpr)) => ⟨(7, (.osl 7 82 10 (y.map cGExpr))) :: a1.env, a1.bx⟩) h (OK_sL7Exprs p0.query) (by kernel_rfl) (by kernel_rfl) (by kernel_rfl) (by kernel_rfl) (fun y => by kernel_rfl) (fun y => by kernel_rfl) ?_)
 clear h; intro y1 h
 let a2 : St := a1.p [(3, (.osl 3 82 10 (y1.map cGExpr))), (7, (.d (.sl 10 (y1.map cGExpr))))]
 refine st 1 a2 (nx (si (so ?_)))
 let a3 : St := a2.p [(4, (vI 0))]
 exact st 1 a3 (nx (bi (loop_go (s' := stsL8Exprs_L0 p0 y1 0) (wr [(3, .old 3)] (es (eo 3 (es er_nil))) (bs_ br_nil)) (OK_sL8Exprs_L0 p0 y1 0 _ h))))
theorem OKs_sStmtDepth_L0 (y1 : (List GExpr)) : (∀ (x3 : Int) (x5 : Int) (r : Int), sStmtDepth_L0 y1 x3 x5 = some r → avc Tryz.prog acsStmtDepth_L0 (qsStmtDepth_1 r) (stsStmtDepth_L0 y1 x3 x5)) := by
 refine sStmtDepth_L0.partial_correctness y1 (fun x3 x5 r => avc Tryz.prog acsStmtDepth_L0 (qsStmtDepth_1 r) (stsStmtDepth_L0 y1 x3 x5)) ?_
 · intro F_sStmtDepth_L0 OK_sStmtDepth_L0 x3 x5 r h
   delta acsStmtDepth_L0
   refine loop_unroll (si (so ?_))
   let a5 : St := (stsStmtDepth_L0 y1 x3 x5).p [(9, (.osl 4 82 10 (y1.map cGExpr))), (8, (vI x5))]
   refine st 2 a5 (ps (vI (ln y1)) (vln (sz := 10) (l := y1) (f := cGExpr)) ?_)
   let a6 : St := a5.p [(11, (vB (decide (x5 < (ln y1))))), (10, (vI (ln y1)))]
   refine st 1 a6 (nx ?_)
   refine cd h (fun h => ?_) fun h => ?_
   refine ki (xi (si (bi (oi ?_))))
   let a7 : St := a6.p [(16, (vI x5)), (15, (.osl 4 82 10 (y1.map cGExpr))), (14, (vI x3))]
   refine st 3 a7 (vs (fun (y : GExpr) => (.rp (oGExpr y))) h (fun y hy => via (l := y1) (f := cGExpr) (g := oGExpr) (k := .i64) hy cGExpr_eq) fun y2 h => ?_)
   let a8 : St := a7.p [(18, (vGExpr y2)), (17, (.rp (oGExpr y2)))]
   refine st 1 a8 (cs h (OK_sDepthOf y2) fun y3 h => (cs h (OK_sL1Max x3 y3) fun y4 h => ?_))
   let a9 : St := a8.p [(3, (vI y4)), (20, (vI y4)), (19, (vI y3))]
   refine st 1 a9 (ni (bn (xi (oi ?_))))
   let a10 : St := a9.p [(5, (vI (IntKind.wrap .i64 (x5 + 1)))), (13, (vI (IntKind.wrap .i64 (x5 + 1)))), (12, (vI x5))]
   exact st 3 a10 (ni (loop_back (s' := stsStmtDepth_L0 y1 y4 (IntKind.wrap .i64 (x5 + 1))) (wr [(4, .old 4)] (es (eo 4 (es er_nil))) br_nil) (OK_sStmtDepth_L0 y4 (IntKind.wrap .i64 (x5 + 1)) _ h)))
   refine ei (te (te (bh (xi (so ?_)))))
   let a11 : St := a6.p [(2, (vI x3)), (21, (vI x3))]
   refine st 2 a11 (nx (ri ?_))
   injection h with h; subst h
   exact r1 (v := (vI x3))
theorem OK_sStmtDepth_L0 (y1 : (List GExpr)) (x3 : Int) (x5 : Int) (r : Int) (h : sStmtDepth_L0 y1 x3 x5 = some r) : avc Tryz.prog acsStmtDepth_L0 (qsStmtDepth_1 r) (stsStmtDepth_L0 y1 x3 x5) := (OKs_sStmtDepth_L0 y1) x3 x5 r h
theorem OK_sStmtDepth (p0 : GStmt) : FOk Tryz.prog 14 [(vGStmt p0)] (fun y => (vI y)) (sStmtDepth p0) := by
 intro r h
 rw [sStmtDepth] at h
 refine aof trsStmtDepth ?_
 show avc Tryz.prog acsStmtDepth (qsStmtDepth _) ⟨[(0, (vGStmt p0))], []⟩
 delta acsStmtDepth
 refine so ?_
 let a0 : St := ⟨[(2, (vI 0)), (1, (.ptr 1 0)), (0, (vGStmt p0))], [(1, bGStmt p0)]⟩
 refine st 2 a0 (nx (so ?_))
 let a1 : St := a0.p [(3, (vI 0))]
 refine st 1 a1 (nx (so ?_))
 let a2 : St := a1.p [(6, (vGStmt p0))]
 refine st 1 a2 (callg_step ⟨[], [], [], [], [], [(2000000, 7)], [], [7]⟩ (m := sL8Exprs p0) (S' := fun (y : (List GExpr)) => ⟨(7, (.osl 7 82 10 (y.map cGExpr))) :: a2.env, a2.bx⟩) h (OK_sL8Exprs p0) (by kernel_rfl) (by kernel_rfl) (by kernel_rfl) (by kernel_rfl) (fun y => by kernel_rfl) (fun y => by kernel_rfl) ?_)
 clear h; intro y1 h
 let a3 : St := a2.p [(4, (.osl 4 82 10 (y1.map cGExpr))), (7, (.d (.sl 10 (y1.map cGExpr))))]
 refine st 1 a3 (nx (si (so ?_)))
 let a4 : St := a3.p [(5, (vI 0))]
 exact st 1 a4 (nx (bi (loop_go (s' := stsStmtDepth_L0 y1 0 0) (wr [(4, .old 4)] (es (eo 4 (es er_nil))) br_nil) (OK_sStmtDepth_L0 y1 0 0 _ h))))
theorem OKs_sStmtSize_L0 (y1 : (List GExpr)) : (∀ (x3 : Int) (x5 : Int) (r : Int), sStmtSize_L0 y1 x3 x5 = some r → avc Tryz.prog acsStmtSize_L0 (qsStmtSize_1 r) (stsStmtSize_L0 y1 x3 x5)) := by
 refine sStmtSize_L0.partial_correctness y1 (fun x3 x5 r => avc Tryz.prog acsStmtSize_L0 (qsStmtSize_1 r) (stsStmtSize_L0 y1 x3 x5)) ?_
 · intro F_sStmtSize_L0 OK_sStmtSize_L0 x3 x5 r h
   delta acsStmtSize_L0
   refine loop_unroll (si (so ?_))
   let a5 : St := (stsStmtSize_L0 y1 x3 x5).p [(9, (.osl 4 82 10 (y1.map cGExpr))), (8, (vI x5))]
   refine st 2 a5 (ps (vI (ln y1)) (vln (sz := 10) (l := y1) (f := cGExpr)) ?_)
   let a6 : St := a5.p [(11, (vB (decide (x5 < (ln y1))))), (10, (vI (ln y1)))]
   refine st 1 a6 (nx ?_)
   refine cd h (fun h => ?_) fun h => ?_
   refine ki (xi (si (bi (oi ?_))))
   let a7 : St := a6.p [(16, (vI x5)), (15, (.osl 4 82 10 (y1.map cGExpr))), (14, (vI x3))]
   refine st 3 a7 (vs (fun (y : GExpr) => (.rp (oGExpr y))) h (fun y hy => via (l := y1) (f := cGExpr) (g := oGExpr) (k := .i64) hy cGExpr_eq) fun y2 h => ?_)
   let a8 : St := a7.p [(18, (vGExpr y2)), (17, (.rp (oGExpr y2)))]
   refine st 1 a8 (cs h (OK_sSizeOf y2) fun y3 h => ?_)
   let a9 : St := a8.p [(3, (vI (IntKind.wrap .i64 (x3 + y3)))), (20, (vI (IntKind.wrap .i64 (x3 + y3)))), (19, (vI y3))]
   refine st 2 a9 (ni (bn (xi (oi ?_))))
   let a10 : St := a9.p [(5, (vI (IntKind.wrap .i64 (x5 + 1)))), (13, (vI (IntKind.wrap .i64 (x5 + 1)))), (12, (vI x5))]
   exact st 3 a10 (ni (loop_back (s' := stsStmtSize_L0 y1 (IntKind.wrap .i64 (x3 + y3)) (IntKind.wrap .i64 (x5 + 1))) (wr [(4, .old 4)] (es (eo 4 (es er_nil))) br_nil) (OK_sStmtSize_L0 (IntKind.wrap .i64 (x3 + y3)) (IntKind.wrap .i64 (x5 + 1)) _ h)))
   refine ei (te (te (bh (xi (so ?_)))))
   let a11 : St := a6.p [(2, (vI x3)), (21, (vI x3))]
   refine st 2 a11 (nx (ri ?_))
   injection h with h; subst h
   exact r1 (v := (vI x3))
theorem OK_sStmtSize_L0 (y1 : (List GExpr)) (x3 : Int) (x5 : Int) (r : Int) (h : sStmtSize_L0 y1 x3 x5 = some r) : avc Tryz.prog acsStmtSize_L0 (qsStmtSize_1 r) (stsStmtSize_L0 y1 x3 x5) := (OKs_sStmtSize_L0 y1) x3 x5 r h
theorem OK_sStmtSize (p0 : GStmt) : FOk Tryz.prog 15 [(vGStmt p0)] (fun y => (vI y)) (sStmtSize p0) := by
 intro r h
 rw [sStmtSize] at h
 refine aof trsStmtSize ?_
 show avc Tryz.prog acsStmtSize (qsStmtSize _) ⟨[(0, (vGStmt p0))], []⟩
 delta acsStmtSize
 refine so ?_
 let a0 : St := ⟨[(2, (vI 0)), (1, (.ptr 1 0)), (0, (vGStmt p0))], [(1, bGStmt p0)]⟩
 refine st 2 a0 (nx (so ?_))
 let a1 : St := a0.p [(3, (vI 0))]
 refine st 1 a1 (nx (so ?_))
 let a2 : St := a1.p [(6, (vGStmt p0))]
 refine st 1 a2 (callg_step ⟨[], [], [], [], [], [(2000000, 7)], [], [7]⟩ (m := sL8Exprs p0) (S' := fun (y : (List GExpr)) => ⟨(7, (.osl 7 82 10 (y.map cGExpr))) :: a2.env, a2.bx⟩) h (OK_sL8Exprs p0) (by kernel_rfl) (by kernel_rfl) (by kernel_rfl) (by kernel_rfl) (fun y => by kernel_rfl) (fun y => by kernel_rfl) ?_)
 clear h; intro y1 h
 let a3 : St := a2.p [(4, (.osl 4 82 10 (y1.map cGExpr))), (7, (.d (.sl 10 (y1.map cGExpr))))]
 refine st 1 a3 (nx (si (so ?_)))
 let a4 : St := a3.p [(5, (vI 0))]
 exact st 1 a4 (nx (bi (loop_go (s' := stsStmtSize_L0 y1 0 0) (wr [(4, .old 4)] (es (eo 4 (es er_nil))) br_nil) (OK_sStmtSize_L0 y1 0 0 _ h))))
theorem OK_sStmtOk (p0 : GStmt) : FOk Tryz.prog 5 [(vGStmt p0)] (fun y => (vB y)) (sStmtOk p0) := by
 intro r h
 rw [sStmtOk] at h
 refine aof trsStmtOk ?_
 show avc Tryz.prog acsStmtOk (qsStmtOk _) ⟨[(0, (vGStmt p0))], []⟩
 delta acsStmtOk
 refine so ?_
 let a0 : St := ⟨[(2, (vB false)), (1, (.ptr 1 0)), (0, (vGStmt p0))], [(1, bGStmt p0)]⟩
 refine st 2 a0 (nx (so ?_))
 let a1 : St := a0.p [(3, (vGStmt p0))]
 refine st 1 a1 (cs h (OK_sL8Shape p0) fun y1 h => ?_)
 let a2 : St := a1.p [(5, (vB y1)), (4, (vB y1))]
 refine st 1 a2 (gp true y1 (vGStmt p0) (fun hc => vl) (gcall_step (p := true) (b := y1) (m := sStmtDepth p0) (dflt := default) (args := [(vGStmt p0)]) (v' := (fun y => (vI y))) h (by kernel_rfl) (OK_sStmtDepth p0) (fun hc => by kernel_rfl) (by kernel_rfl) (fun _ => rfl) (fun hc => (Eq.trans (b := ([(true && (y1 == true))] : List Bool).all id) (by kernel_rfl) (all_c hc rfl))) ?_))
 clear h; intro y2 h
 refine gp true y1 (vB (decide (y2 ≤ 24))) (fun hc => vg hc) (vs (fun (y : Bool) => (vB y)) h (fun y hy => vop_pickV hy (p := (true && (y1 == true))) (q := true) (by kernel_rfl) (by kernel_rfl) (by kernel_rfl) (by kernel_rfl) (fun hb => gc_t rfl hb) (fun _ => rfl)) fun y3 h => ?_)
 let a3 : St := a2.p [(10, (vB y3)), (9, (vB y3)), (8, (.ite (gT y1) (vB (decide (y2 ≤ 24))))), (7, (.ite (gT y1) (vI y2))), (6, (.ite (gT y1) (vGStmt p0)))]
 refine st 1 a3 (gp true y3 (vGStmt p0) (fun hc => vl) (gcall_step (p := true) (b := y3) (m := sStmtSize p0) (dflt := default) (args := [(vGStmt p0)]) (v' := (fun y => (vI y))) h (by kernel_rfl) (OK_sStmtSize p0) (fun hc => by kernel_rfl) (by kernel_rfl) (fun _ => rfl) (fun hc => (Eq.trans (b := ([(true && (y3 == true))] : List Bool).all id) (by kernel_rfl) (all_c hc rfl))) ?_))
 clear h; intro y4 h
 refine gp true y3 (vB (decide (y4 ≤ 200))) (fun hc => vg hc) (vs (fun (y : Bool) => (vB y)) h (fun y hy => vop_pickV hy (p := (true && (y3 == true))) (q := true) (by kernel_rfl) (by kernel_rfl) (by kernel_rfl) (by kernel_rfl) (fun hb => gc_t rfl hb) (fun _ => rfl)) fun y5 h => ?_)
 let a4 : St := a3.p [(2, (vB y5)), (14, (vB y5)), (13, (.ite (gT y3) (vB (decide (y4 ≤ 200))))), (12, (.ite (gT y3) (vI y4))), (11, (.ite (gT y3) (vGStmt p0)))]
 refine st 1 a4 (nx (ri ?_))
 injection h with h; subst h
 exact r1 (v := (vB y5))
theorem OK_wEqValue (p0 : GValue) (p1 : GValue) : FOk Tryz.prog 103 [(vGValue p0), (vGValue p1)] (fun y => (vB y)) (wEqValue p0 p1) := by
 intro r h
 rw [wEqValue] at h
 refine aof trwEqValue ?_
 show avc Tryz.prog acwEqValue (qwEqValue _) ⟨[(0, (vGValue p0)), (1, (vGValue p1))], []⟩
 delta acwEqValue
 refine so ?_
 let a0 : St := ⟨[(4, (vB false)), (3, (.ptr 3 0)), (2, (.ptr 2 0)), (0, (vGValue p0)), (1, (vGValue p1))], [(3, bGValue p1), (2, bGValue p0)]⟩
 refine st 3 a0 (nx (si (so ?_)))
 let a1 : St := a0.p [(9, (vB (!decide (p0.kind = p1.kind)))), (8, (vI p1.kind)), (7, (.ptr 3 0)), (6, (vI p0.kind)), (5, (.ptr 2 0))]
 refine st 5 a1 (nx ?_)
 refine cd h (fun h => ?_) fun h => ?_
 refine so ?_
 let a2 : St := a1.p [(4, (vB false))]
 refine st 1 a2 (nx (ri (tr ?_)))
 injection h with h; subst h
 exact r1 (v := (vB false))
 refine ki (xi (si (so ?_)))
 let a3 : St := a1.p [(14, (vB (!decide (p0.num = p1.num)))), (13, (vI p1.num)), (12, (.ptr 3 1)), (11, (vI p0.num)), (10, (.ptr 2 1))]
 refine st 5 a3 (nx ?_)
 refine cd h (fun h => ?_) fun h => ?_
 refine so ?_
 let a4 : St := a3.p [(4, (vB false))]
 refine st 1 a4 (nx (ri (tr ?_)))
 injection h with h; subst h
 exact r1 (v := (vB false))
 refine ki (xi (si (so ?_)))
 let a5 : St := a3.p [(19, (vB (!decide (p0.text = p1.text)))), (18, (vS p1.text)), (17, (.ptr 3 2)), (16, (vS p0.text)), (15, (.ptr 2 2))]
 refine st 5 a5 (nx ?_)
 refine cd h (fun h => ?_) fun h => ?_
 refine so ?_
 let a6 : St := a5.p [(4, (vB false))]
 refine st 1 a6 (nx (ri (tr ?_)))
 injection h with h; subst h
 exact r1 (v := (vB false))
 refine ki (xi (so ?_))
 let a7 : St := a5.p [(4, (vB true))]
 refine st 1 a7 (nx (ri ?_))
 injection h with h; subst h
 exact r1 (v := (vB true))
theorem OKs_wEqSource : (∀ (p0 : GSource) (p1 : GSource) (r : Bool), wEqSource p0 p1 = some r → ACalls Tryz.prog 101 [(vGSource p0), (vGSource p1)] [] fun x _ => x = (fun y => (vB y)) r) ∧ (∀ (p0 : (List GExpr)) (p1 : (List GExpr)) (r : Bool), wEqExprS p0 p1 = some r → ACalls Tryz.prog 35 [(.d (.sl 10 (p0.map cGExpr))), (.d (.sl 10 (p1.map cGExpr)))] [] fun x _ => x = (fun y => (vB y)) r) ∧ (∀ (p0 : (List GExpr)) (p1 : (List GExpr)) (x5 : Int) (r : Bool), wEqExprS_L0 p0 p1 x5 = some r → avc Tryz.prog acwEqExprS_L0 (qwEqExprS_1 r) (stwEqExprS_L0 p0 p1 x5)) ∧ (∀ (p0 : GExpr) (p1 : GExpr) (r : Bool), wEqExpr p0 p1 = some r → ACalls Tryz.prog 74 [(vGExpr p0), (vGExpr p1)] [] fun x _ => x = (fun y => (vB y)) r) ∧ (∀ (p0 : (List GQuery)) (p1 : (List GQuery)) (r : Bool), wEqQueryS p0 p1 = some r → ACalls Tryz.prog 104 [(.d (.sl 6 (p0.map cGQuery))), (.d (.sl 6 (p1.map cGQuery)))] [] fun x _ => x = (fun y => (vB y)) r) ∧ (∀ (p0 : (List GQuery)) (p1 : (List GQuery)) (x5 : Int) (r : Bool), wEqQueryS_L0 p0 p1 x5 = some r → avc Tryz.prog acwEqQueryS_L0 (qwEqQueryS_1 r) (stwEqQueryS_L0 p0 p1 x5)) ∧ (∀ (p0 : GQuery) (p1 : GQuery) (r : Bool), wEqQuery p0 p1 = some r → ACalls Tryz.prog 32 [(vGQuery p0), (vGQuery p1)] [] fun x _ => x = (fun y => (vB y)) r) ∧ (∀ (p0 : (List GSortKey)) (p1 : (List GSortKey)) (r : Bool), wEqSortKeyS p0 p1 = some r → ACalls Tryz.prog 73 [(.d (.sl 11 (p0.map cGSortKey))), (.d (.sl 11 (p1.map cGSortKey)))] [] fun x _ => x = (fun y => (vB y)) r) ∧ (∀ (p0 : (List GSortKey)) (p1 : (List GSortKey)) (x5 : Int) (r : Bool), wEqSortKeyS_L0 p0 p1 x5 = some r → avc Tryz.prog acwEqSortKeyS_L0 (qwEqSortKeyS_1 r) (stwEqSortKeyS_L0 p0 p1 x5)) ∧ (∀ (p0 : GSortKey) (p1 : GSortKey) (r : Bool), wEqSortKey p0 p1 = some r → ACalls Tryz.prog 102 [(vGSortKey p0), (vGSortKey p1)] [] fun x _ => x = (fun y => (vB y)) r) ∧ (∀ (p0 : (List GSource)) (p1 : (List GSource)) (r : Bool), wEqSourceS p0 p1 = some r → ACalls Tryz.prog 72 [(.d (.sl 3 (p0.map cGSource))), (.d (.sl 3 (p1.map cGSource)))] [] fun x _ => x = (fun y => (vB y)) r) ∧ (∀ (p0 : (List GSource)) (p1 : (List GSource)) (x5 : Int) (r : Bool), wEqSourceS_L0 p0 p1 x5 = some r → avc Tryz.prog acwEqSourceS_L0 (qwEqSourceS_1 r) (stwEqSourceS_L0 p0 p1 x5)) ∧ (∀ (p0 : (List GItem)) (p1 : (List GItem)) (r : Bool), wEqItemS p0 p1 = some r → ACalls Tryz.prog 71 [(.d (.sl 13 (p0.map cGItem))), (.d (.sl 13 (p1.map cGItem)))] [] fun x _ => x = (fun y => (vB y)) r) ∧ (∀ (p0 : (List GItem)) (p1 : (List GItem)) (x5 : Int) (r : Bool), wEqItemS_L0 p0 p1 x5 = some r → avc Tryz.prog acwEqItemS_L0 (qwEqItemS_1 r) (stwEqItemS_L0 p0 p1 x5)) ∧ (∀ (p0 : GItem) (p1 : GItem) (r : Bool), wEqItem p0 p1 = some r → ACalls Tryz.prog 100 [(vGItem p0), (vGItem p1)] [] fun x _ => x = (fun y => (vB y)) r) := by
 refine wEqSource.mutual_partial_correctness (fun p0 p1 r => ACalls Tryz.prog 101 [(vGSource p0), (vGSource p1)] [] fun x _ => x = (fun y => (vB y)) r) (fun p0 p1 r => ACalls Tryz.prog 35 [(.d (.sl 10 (p0.map cGExpr))), (.d (.sl 10 (p1.map cGExpr)))] [] fun x _ => x = (fun y => (vB y)) r) (fun p0 p1 x5 r => avc Tryz.prog acwEqExprS_L0 (qwEqExprS_1 r) (stwEqExprS_L0 p0 p1 x5)) (fun p0 p1 r => ACalls Tryz.prog 74 [(vGExpr p0), (vGExpr p1)] [] fun x _ => x = (fun y => (vB y)) r) (fun p0 p1 r => ACalls Tryz.prog 104 [(.d (.sl 6 (p0.map cGQuery))), (.d (.sl 6 (p1.map cGQuery)))] [] fun x _ => x = (fun y => (vB y)) r) (fun p0 p1 x5 r => avc Tryz.prog acwEqQueryS_L0 (qwEqQueryS_1 r) (stwEqQueryS_L0 p0 p1 x5)) (fun p0 p1 r => ACalls Tryz.prog 32 [(vGQuery p0), (vGQuery p1)] [] fun x _ => x = (fun y => (vB y)) r) (fun p0 p1 r => ACalls Tryz.prog 73 [(.d (.sl 11 (p0.map cGSortKey))), (.d (.sl 11 (p1.map cGSortKey)))] [] fun x _ => x = (fun y => (vB y)) r) (fun p0 p1 x5 r => avc Tryz.prog acwEqSortKeyS_L0 (qwEqSortKeyS_1 r) (stwEqSortKeyS_L0 p0 p1 x5)) (fun p0 p1 r => ACalls Tryz.prog 102 [(vGSortKey p0), (vGSortKey p1)] [] fun x _ => x = (fun y => (vB y)) r) (fun p0 p1 r => ACalls Tryz.prog 72 [(.d (.sl 3 (p0.map cGSource))), (.d (.sl 3 (p1.map cGSource)))] [] fun x _ => x = (fun y => (vB y)) r) (fun p0 p1 x5 r => avc Tryz.prog acwEqSourceS_L0 (qwEqSourceS_1 r) (stwEqSourceS_L0 p0 p1 x5)) (fun p0 p1 r => ACalls Tryz.prog 71 [(.d (.sl 13 (p0.map cGItem))), (.d (.sl 13 (p1.map cGItem)))] [] fun x _ => x = (fun y => (vB y)) r) (fun p0 p1 x5 r => avc Tryz.prog acwEqItemS_L0 (qwEqItemS_1 r) (stwEqItemS_L0 p0 p1 x5)) (fun p0 p1 r => ACalls Tryz.prog 100 [(vGItem p0), (vGItem p1)] [] fun x _ => x = (fun y => (vB y)) r) ?_ ?_ ?_ ?_ ?_ ?_ ?_ ?_ ?_ ?_ ?_ ?_ ?_ ?_ ?_
 · intro F_wEqExprS OK_wEqExprS p0 p1 r h
   refine aof trwEqSource ?_
   show avc Tryz.prog acwEqSource (qwEqSource _) ⟨[(0, (vGSource p0)), (1, (vGSource p1))], []⟩
   delta acwEqSource
   refine so ?_
   let a0 : St := ⟨[(4, (vB false)), (3, (.ptr 3 0)), (2, (.ptr 2 0)), (0, (vGSource p0)), (1, (vGSource p1))], [(3, bGSource p1), (2, bGSource p0)]⟩
   refine st 3 a0 (nx (si (so ?_)))
   let a1 : St := a0.p [(9, (vB (!decide (p0.table = p1.table)))), (8, (vS p1.table)), (7, (.ptr 3 0)), (6, (vS p0.table)), (5, (.ptr 2 0))]
   refine st 5 a1 (nx ?_)
   refine cd h (fun h => ?_) fun h => ?_
   refine so ?_
   let a2 : St := a1.p [(4, (vB false))]
   refine st 1 a2 (nx (ri (tr ?_)))
   injection h with h; subst h
   exact r1 (v := (vB false))
   refine ki (xi (si (so ?_)))
   let a3 : St := a1.p [(14, (vB (!decide (p0.as_ = p1.as_)))), (13, (vS p1.as_)), (12, (.ptr 3 1)), (11, (vS p0.as_)), (10, (.ptr 2 1))]
   refine st 5 a3 (nx ?_)
   refine cd h (fun h => ?_) fun h => ?_
   refine so ?_
   let a4 : St := a3.p [(4, (vB false))]
   refine st 1 a4 (nx (ri (tr ?_)))
   injection h with h; subst h
   exact r1 (v := (vB false))
   refine ki (xi (si (so ?_)))
   let a5 : St := a3.p [(18, (.d (.sl 10 (p1.on_.map cGExpr)))), (17, (.ptr 3 2)), (16, (.d (.sl 10 (p0.on_.map cGExpr)))), (15, (.ptr 2 2))]
   refine st 4 a5 (cs h (OK_wEqExprS p0.on_ p1.on_) fun y1 h => ?_)
   let a6 : St := a5.p [(20, (vB (!y1))), (19, (vB y1))]
   refine st 1 a6 (nx ?_)
   refine cd h (fun h => ?_) fun h => ?_
   refine so ?_
   let a7 : St := a6.p [(4, (vB false))]
   refine st 1 a7 (nx (ri (tr ?_)))
   injection h with h; subst h
   exact r1 (v := (vB false))
   refine ki (xi (so ?_))
   let a8 : St := a6.p [(4, (vB true))]
   refine st 1 a8 (nx (ri ?_))
   injection h with h; subst h
   exact r1 (v := (vB true))
 · intro F_wEqExprS_L0 OK_wEqExprS_L0 p0 p1 r h
   refine aof trwEqExprS ?_
   show avc Tryz.prog acwEqExprS (qwEqExprS _) ⟨[(0, (.d (.sl 10 (p0.map cGExpr)))), (1, (.d (.sl 10 (p1.map cGExpr))))], []⟩
   delta acwEqExprS
   refine so ?_
   let a0 : St := ⟨[(4, (vB false)), (0, (.d (.sl 10 (p0.map cGExpr)))), (1, (.d (.sl 10 (p1.map cGExpr))))], []⟩
   refine st 1 a0 (nx (si (so ?_)))
   let a1 : St := a0.p [(6, (.d (.sl 10 (p0.map cGExpr))))]
   refine st 1 a1 (ps (vI (ln p0)) (vln (sz := 10) (l := p0) (f := cGExpr)) ?_)
   let a2 : St := a1.p [(8, (.d (.sl 10 (p1.map cGExpr)))), (7, (vI (ln p0)))]
   refine st 1 a2 (ps (vI (ln p1)) (vln (sz := 10) (l := p1) (f := cGExpr)) ?_)
   let a3 : St := a2.p [(10, (vB (!decide ((ln p0) = (ln p1))))), (9, (vI (ln p1)))]
   refine st 1 a3 (nx ?_)
   refine cd h (fun h => ?_) fun h => ?_
   refine so ?_
   let a4 : St := a3.p [(4, (vB false))]
   refine st 1 a4 (nx (ri (tr ?_)))
   injection h with h; subst h
   exact r1 (v := (vB false))
   refine ki (xi (si (so ?_)))
   let a5 : St := a3.p [(5, (vI 0))]
   exact st 1 a5 (nx (bi (loop_go (s' := stwEqExprS_L0 p0 p1 0) (wr [] (es (es (es er_nil))) br_nil) (OK_wEqExprS_L0 p0 p1 0 _ h))))
 · intro F_wEqExprS_L0 F_wEqExpr OK_wEqExprS_L0 OK_wEqExpr p0 p1 x5 r h
   delta acwEqExprS_L0
   refine loop_unroll (si (so ?_))
   let a6 : St := (stwEqExprS_L0 p0 p1 x5).p [(12, (.d (.sl 10 (p0.map cGExpr)))), (11, (vI x5))]
   refine st 2 a6 (ps (vI (ln p0)) (vln (sz := 10) (l := p0) (f := cGExpr)) ?_)
   let a7 : St := a6.p [(14, (vB (decide (x5 < (ln p0))))), (13, (vI (ln p0)))]
   refine st 1 a7 (nx ?_)
   refine cd h (fun h => ?_) fun h => ?_
   refine ki (xi (si (bi (si (dops_in ?_)))))
   let a8 : St := a7.p [(18, (vI x5)), (17, (.d (.sl 10 (p0.map cGExpr))))]
   refine dsts_ok 2 (s' := a8) (by kernel_rfl) (dv_step (m := idx p0 x5) (v' := fun y => (.rp (oGExpr y))) h rfl rfl (fun y hy => via (l := p0) (f := cGExpr) (g := oGExpr) (k := .i64) hy cGExpr_eq) ?_)
   clear h; intro y1 h
   let a9 : St := a8.p [(22, (vI x5)), (21, (.d (.sl 10 (p1.map cGExpr)))), (20, (vGExpr y1)), (19, (.rp (oGExpr y1)))]
   refine dsts_ok 3 (s' := a9) (by kernel_rfl) (dv_step (m := idx p1 x5) (v' := fun y => (.rp (oGExpr y))) h rfl rfl (fun y hy => via (l := p1) (f := cGExpr) (g := oGExpr) (k := .i64) hy cGExpr_eq) ?_)
   clear h; intro y2 h
   let a10 : St := a9.p [(24, (vGExpr y2)), (23, (.rp (oGExpr y2)))]
   refine dsts_ok 1 (s' := a10) (by kernel_rfl) (dcall_step (m := F_wEqExpr y1 y2) (args := [(vGExpr y1), (vGExpr y2)]) (v' := (fun y => (vB y))) h (OK_wEqExpr y1 y2) (by kernel_rfl) (by kernel_rfl) (fun _ => rfl) ?_)
   clear h; intro y3 h
   let a11 : St := a10.p [(26, (vB (!y3))), (25, (vB y3))]
   refine dsts_ok 1 (s' := a11) (by kernel_rfl) (dnil_in (by kernel_rfl) (by kernel_rfl) (xi ?_))
   refine cd h (fun h => ?_) fun h => ?_
   refine so ?_
   let a12 : St := a11.p [(4, (vB false))]
   refine st 1 a12 (nx (ri (br (tr (tr (br (tr ?_)))))))
   injection h with h; subst h
   exact r1 (v := (vB false))
   refine ki (bn (xi (oi ?_)))
   let a13 : St := a11.p [(5, (vI (IntKind.wrap .i64 (x5 + 1)))), (16, (vI (IntKind.wrap .i64 (x5 + 1)))), (15, (vI x5))]
   exact st 3 a13 (ni (loop_back (s' := stwEqExprS_L0 p0 p1 (IntKind.wrap .i64 (x5 + 1))) (wr [] (es (es (es er_nil))) br_nil) (OK_wEqExprS_L0 p0 p1 (IntKind.wrap .i64 (x5 + 1)) _ h)))
   refine ei (te (te (bh (xi (so ?_)))))
   let a14 : St := a7.p [(4, (vB true))]
   refine st 1 a14 (nx (ri ?_))
   injection h with h; subst h
   exact r1 (v := (vB true))
 · intro F_wEqExprS F_wEqQueryS OK_wEqExprS OK_wEqQueryS p0 p1 r h
   refine aof trwEqExpr ?_
   show avc Tryz.prog acwEqExpr (qwEqExpr _) ⟨[(0, (vGExpr p0)), (1, (vGExpr p1))], []⟩
   delta acwEqExpr
   refine so ?_
   let a0 : St := ⟨[(4, (vB false)), (3, (.ptr 3 0)), (2, (.ptr 2 0)), (0, (vGExpr p0)), (1, (vGExpr p1))], [(3, bGExpr p1), (2, bGExpr p0)]⟩
   refine st 3 a0 (nx (si (so ?_)))
   let a1 : St := a0.p [(9, (vB (!decide (p0.kind = p1.kind)))), (8, (vI p1.kind)), (7, (.ptr 3 0)), (6, (vI p0.kind)), (5, (.ptr 2 0))]
   refine st 5 a1 (nx ?_)
   refine cd h (fun h => ?_) fun h => ?_
   refine so ?_
   let a2 : St := a1.p [(4, (vB false))]
   refine st 1 a2 (nx (ri (tr ?_)))
   injection h with h; subst h
   exact r1 (v := (vB false))
   refine ki (xi (si (so ?_)))
   let a3 : St := a1.p [(14, (vB (!decide (p0.op = p1.op)))), (13, (vI p1.op)), (12, (.ptr 3 1)), (11, (vI p0.op)), (10, (.ptr 2 1))]
   refine st 5 a3 (nx ?_)
   refine cd h (fun h => ?_) fun h => ?_
   refine so ?_
   let a4 : St := a3.p [(4, (vB false))]
   refine st 1 a4 (nx (ri (tr ?_)))
   injection h with h; subst h
   exact r1 (v := (vB false))
   refine ki (xi (si (so ?_)))
   let a5 : St := a3.p [(19, (vB (!(p0.not_ == p1.not_)))), (18, (vB p1.not_)), (17, (.ptr 3 2)), (16, (vB p0.not_)), (15, (.ptr 2 2))]
   refine st 5 a5 (nx ?_)
   refine cd h (fun h => ?_) fun h => ?_
   refine so ?_
   let a6 : St := a5.p [(4, (vB false))]
   refine st 1 a6 (nx (ri (tr ?_)))
   injection h with h; subst h
   exact r1 (v := (vB false))
   refine ki (xi (si (so ?_)))
   let a7 : St := a5.p [(23, (vGValue p1.value)), (22, (.ptr 3 3)), (21, (vGValue p0.value)), (20, (.ptr 2 3))]
   refine st 4 a7 (cs h (OK_wEqValue p0.value p1.value) fun y1 h => ?_)
   let a8 : St := a7.p [(25, (vB (!y1))), (24, (vB y1))]
   refine st 1 a8 (nx ?_)
   refine cd h (fun h => ?_) fun h => ?_
   refine so ?_
   let a9 : St := a8.p [(4, (vB false))]
   refine st 1 a9 (nx (ri (tr ?_)))
   injection h with h; subst h
   exact r1 (v := (vB false))
   refine ki (xi (si (so ?_)))
   let a10 : St := a8.p [(30, (vB (!decide (p0.qual = p1.qual)))), (29, (vS p1.qual)), (28, (.ptr 3 6)), (27, (vS p0.qual)), (26, (.ptr 2 6))]
   refine st 5 a10 (nx ?_)
   refine cd h (fun h => ?_) fun h => ?_
   refine so ?_
   let a11 : St := a10.p [(4, (vB false))]
   refine st 1 a11 (nx (ri (tr ?_)))
   injection h with h; subst h
   exact r1 (v := (vB false))
   refine ki (xi (si (so ?_)))
   let a12 : St := a10.p [(35, (vB (!decide (p0.name = p1.name)))), (34, (vS p1.name)), (33, (.ptr 3 7)), (32, (vS p0.name)), (31, (.ptr 2 7))]
   refine st 5 a12 (nx ?_)
   refine cd h (fun h => ?_) fun h => ?_
   refine so ?_
   let a13 : St := a12.p [(4, (vB false))]
   refine st 1 a13 (nx (ri (tr ?_)))
   injection h with h; subst h
   exact r1 (v := (vB false))
   refine ki (xi (si (so ?_)))
   let a14 : St := a12.p [(39, (.d (.sl 10 (p1.kids.map cGExpr)))), (38, (.ptr 3 8)), (37, (.d (.sl 10 (p0.kids.map cGExpr)))), (36, (.ptr 2 8))]
   refine st 4 a14 (cs h (OK_wEqExprS p0.kids p1.kids) fun y2 h => ?_)
   let a15 : St := a14.p [(41, (vB (!y2))), (40, (vB y2))]
   refine st 1 a15 (nx ?_)
   refine cd h (fun h => ?_) fun h => ?_
   refine so ?_
   let a16 : St := a15.p [(4, (vB false))]
   refine st 1 a16 (nx (ri (tr ?_)))
   injection h with h; subst h
   exact r1 (v := (vB false))
   refine ki (xi (si (so ?_)))
   let a17 : St := a15.p [(45, (.d (.sl 6 (p1.sub.map cGQuery)))), (44, (.ptr 3 9)), (43, (.d (.sl 6 (p0.sub.map cGQuery)))), (42, (.ptr 2 9))]
   refine st 4 a17 (cs h (OK_wEqQueryS p0.sub p1.sub) fun y3 h => ?_)
   let a18 : St := a17.p [(47, (vB (!y3))), (46, (vB y3))]
   refine st 1 a18 (nx ?_)
   refine cd h (fun h => ?_) fun h => ?_
   refine so ?_
   let a19 : St := a18.p [(4, (vB false))]
   refine st 1 a19 (nx (ri (tr ?_)))
   injection h with h; subst h
   exact r1 (v := (vB false))
   refine ki (xi (so ?_))
   let a20 : St := a18.p [(4, (vB true))]
   refine st 1 a20 (nx (ri ?_))
   injection h with h; subst h
   exact r1 (v := (vB true))
 · intro F_wEqQueryS_L0 OK_wEqQueryS_L0 p0 p1 r h
   refine aof trwEqQueryS ?_
   show avc Tryz.prog acwEqQueryS (qwEqQueryS _) ⟨[(0, (.d (.sl 6 (p0.map cGQuery)))), (1, (.d (.sl 6 (p1.map cGQuery))))], []⟩
   delta acwEqQueryS
   refine so ?_
   let a0 : St := ⟨[(4, (vB false)), (0, (.d (.sl 6 (p0.map cGQuery)))), (1, (.d (.sl 6 (p1.map cGQuery))))], []⟩
   refine st 1 a0 (nx (si (so ?_)))
   let a1 : St := a0.p [(6, (.d (.sl 6 (p0.map cGQuery))))]
   refine st 1 a1 (ps (vI (ln p0)) (vln (sz := 6) (l := p0) (f := cGQuery)) ?_)
   let a2 : St := a1.p [(8, (.d (.sl 6 (p1.map cGQuery)))), (7, (vI (ln p0)))]
   refine st 1 a2 (ps (vI (ln p1)) (vln (sz := 6) (l := p1) (f := cGQuery)) ?_)
   let a3 : St := a2.p [(10, (vB (!decide ((ln p0) = (ln p1))))), (9, (vI (ln p1)))]
   refine st 1 a3 (nx ?_)
   refine cd h (fun h => ?_) fun h => ?_
   refine so ?_
   let a4 : St := a3.p [(4, (vB false))]
   refine st 1 a4 (nx (ri (tr ?_)))
   injection h with h; subst h
   exact r1 (v := (vB false))
   refine ki (xi (si (so ?_)))
   let a5 : St := a3.p [(5, (vI 0))]
   exact st 1 a5 (nx (bi (loop_go (s' := stwEqQueryS_L0 p0 p1 0) (wr [] (es (es (es er_nil))) br_nil) (OK_wEqQueryS_L0 p0 p1 0 _ h))))
 · intro F_wEqQueryS_L0 F_wEqQuery OK_wEqQueryS_L0 OK_wEqQuery p0 p1 x5 r h
   delta acwEqQueryS_L0
   refine loop_unroll (si (so ?_))
   let a6 : St := (stwEqQueryS_L0 p0 p1 x5).p [(12, (.d (.sl 6 (p0.map cGQuery)))), (11, (vI x5))]
   refine st 2 a6 (ps (vI (ln p0)) (vln (sz := 6) (l := p0) (f := cGQuery)) ?_)
   let a7 : St := a6.p [(14, (vB (decide (x5 < (ln p0))))), (13, (vI (ln p0)))]
   refine st 1 a7 (nx ?_)
   refine cd h (fun h => ?_) fun h => ?_
   refine ki (xi (si (bi (si (dops_in ?_)))))
   let a8 : St := a7.p [(18, (vI x5)), (17, (.d (.sl 6 (p0.map cGQuery))))]
   refine dsts_ok 2 (s' := a8) (by kernel_rfl) (dv_step (m := idx p0 x5) (v' := fun y => (.rp (oGQuery y))) h rfl rfl (fun y hy => via (l := p0) (f := cGQuery) (g := oGQuery) (k := .i64) hy cGQuery_eq) ?_)
   clear h; intro y1 h
   let a9 : St := a8.p [(22, (vI x5)), (21, (.d (.sl 6 (p1.map cGQuery)))), (20, (vGQuery y1)), (19, (.rp (oGQuery y1)))]
   refine dsts_ok 3 (s' := a9) (by kernel_rfl) (dv_step (m := idx p1 x5) (v' := fun y => (.rp (oGQuery y))) h rfl rfl (fun y hy => via (l := p1) (f := cGQuery) (g := oGQuery) (k := .i64) hy cGQuery_eq) ?_)
   clear h; intro y2 h
   let a10 : St := a9.p [(24, (vGQuery y2)), (23, (.rp (oGQuery y2)))]
   refine dsts_ok 1 (s' := a10) (by kernel_rfl) (dcall_step (m := F_wEqQuery y1 y2) (args := [(vGQuery y1), (vGQuery y2)]) (v' := (fun y => (vB y))) h (OK_wEqQuery y1 y2) (by kernel_rfl) (by kernel_rfl) (fun _ => rfl) ?_)
   clear h; intro y3 h
   let a11 : St := a10.p [(26, (vB (!y3))), (25, (vB y3))]
   refine dsts_ok 1 (s' := a11) (by kernel_rfl) (dnil_in (by kernel_rfl) (by kernel_rfl) (xi ?_))
   refine cd h (fun h => ?_) fun h => ?_
   refine so ?_
   let a12 : St := a11.p [(4, (vB false))]
   refine st 1 a12 (nx (ri (br (tr (tr (br (tr ?_)))))))
   injection h with h; subst h
   exact r1 (v := (vB false))
   refine ki (bn (xi (oi ?_)))
   let a13 : St := a11.p [(5, (vI (IntKind.wrap .i64 (x5 + 1)))), (16, (vI (IntKind.wrap .i64 (x5 + 1)))), (15, (vI x5))]
   exact st 3 a13 (ni (loop_back (s' := stwEqQueryS_L0 p0 p1 (IntKind.wrap .i64 (x5 + 1))) (wr [] (es (es (es er_nil))) br_nil) (OK_wEqQueryS_L0 p0 p1 (IntKind.wrap .i64 (x5 + 1)) _ h)))
   refine ei (te (te (bh (xi (so ?_)))))
   let a14 : St := a7.p [(4, (vB true))]
   refine st 1 a14 (nx (ri ?_))
   injection h with h; subst h
   exact r1 (v := (vB true))
 · intro F_wEqExprS F_wEqSortKeyS F_wEqSourceS F_wEqItemS OK_wEqExprS OK_wEqSortKeyS OK_wEqSourceS OK_wEqItemS p0 p1 r h
   refine aof trwEqQuery ?_
   show avc Tryz.prog acwEqQuery (qwEqQuery _) ⟨[(0, (vGQuery p0)), (1, (vGQuery p1))], []⟩
   delta acwEqQuery
   refine so ?_
   let a0 : St := ⟨[(4, (vB false)), (3, (.ptr 3 0)), (2, (.ptr 2 0)), (0, (vGQuery p0)), (1, (vGQuery p1))], [(3, bGQuery p1), (2, bGQuery p0)]⟩
   refine st 3 a0 (nx (si (so ?_)))
   let a1 : St := a0.p [(9, (vB (!(p0.distinct == p1.distinct)))), (8, (vB p1.distinct)), (7, (.ptr 3 0)), (6, (vB p0.distinct)), (5, (.ptr 2 0))]
   refine st 5 a1 (nx ?_)
   refine cd h (fun h => ?_) fun h => ?_
   refine so ?_
   let a2 : St := a1.p [(4, (vB false))]
   refine st 1 a2 (nx (ri (tr ?_)))
   injection h with h; subst h
   exact r1 (v := (vB false))
   refine ki (xi (si (so ?_)))
   let a3 : St := a1.p [(13, (.d (.sl 13 (p1.items.map cGItem)))), (12, (.ptr 3 1)), (11, (.d (.sl 13 (p0.items.map cGItem)))), (10, (.ptr 2 1))]
   refine st 4 a3 (cs h (OK_wEqItemS p0.items p1.items) fun y1 h => ?_)
   let a4 : St := a3.p [(15, (vB (!y1))), (14, (vB y1))]
   refine st 1 a4 (nx ?_)
   refine cd h (fun h => ?_) fun h => ?_
   refine so ?_
   let a5 : St := a4.p [(4, (vB false))]
   refine st 1 a5 (nx (ri (tr ?_)))
   injection h with h; subst h
   exact r1 (v := (vB false))
   refine ki (xi (si (so ?_)))
   let a6 : St := a4.p [(19, (.d (.sl 3 (p1.from_.map cGSource)))), (18, (.ptr 3 2)), (17, (.d (.sl 3 (p0.from_.map cGSource)))), (16, (.ptr 2 2))]
   refine st 4 a6 (cs h (OK_wEqSourceS p0.from_ p1.from_) fun y2 h => ?_)
   let a7 : St := a6.p [(21, (vB (!y2))), (20, (vB y2))]
   refine st 1 a7 (nx ?_)
   refine cd h (fun h => ?_) fun h => ?_
   refine so ?_
   let a8 : St := a7.p [(4, (vB false))]
   refine st 1 a8 (nx (ri (tr ?_)))
   injection h with h; subst h
   exact r1 (v := (vB false))
   refine ki (xi (si (so ?_)))
   let a9 : St := a7.p [(25, (.d (.sl 10 (p1.where_.map cGExpr)))), (24, (.ptr 3 3)), (23, (.d (.sl 10 (p0.where_.map cGExpr)))), (22, (.ptr 2 3))]
   refine st 4 a9 (cs h (OK_wEqExprS p0.where_ p1.where_) fun y3 h => ?_)
   let a10 : St := a9.p [(27, (vB (!y3))), (26, (vB y3))]
   refine st 1 a10 (nx ?_)
   refine cd h (fun h => ?_) fun h => ?_
   refine so ?_
   let a11 : St := a10.p [(4, (vB false))]
   refine st 1 a11 (nx (ri (tr ?_)))
   injection h with h; subst h
   exact r1 (v := (vB false))
   refine ki (xi (si (so ?_)))
   let a12 : St := a10.p [(31, (.d (.sl 11 (p1.order.map cGSortKey)))), (30, (.ptr 3 4)), (29, (.d (.sl 11 (p0.order.map cGSortKey)))), (28, (.ptr 2 4))]
   refine st 4 a12 (cs h (OK_wEqSortKeyS p0.order p1.order) fun y4 h => ?_)
   let a13 : St := a12.p [(33, (vB (!y4))), (32, (vB y4))]
   refine st 1 a13 (nx ?_)
   refine cd h (fun h => ?_) fun h => ?_
   refine so ?_
   let a14 : St := a13.p [(4, (vB false))]
   refine st 1 a14 (nx (ri (tr ?_)))
   injection h with h; subst h
   exact r1 (v := (vB false))
   refine ki (xi (si (so ?_)))
   let a15 : St := a13.p [(38, (vB (!decide (p0.limit = p1.limit)))), (37, (vI p1.limit)), (36, (.ptr 3 5)), (35, (vI p0.limit)), (34, (.ptr 2 5))]
   refine st 5 a15 (nx ?_)
   refine cd h (fun h => ?_) fun h => ?_
   refine so ?_
   let a16 : St := a15.p [(4, (vB false))]
   refine st 1 a16 (nx (ri (tr ?_)))
   injection h with h; subst h
   exact r1 (v := (vB false))
   refine ki (xi (so ?_))
   let a17 : St := a15.p [(4, (vB true))]
   refine st 1 a17 (nx (ri ?_))
   injection h with h; subst h
   exact r1 (v := (vB true))
 · intro F_wEqSortKeyS_L0 OK_wEqSortKeyS_L0 p0 p1 r h
   refine aof trwEqSortKeyS ?_
   show avc Tryz.prog acwEqSortKeyS (qwEqSortKeyS _) ⟨[(0, (.d (.sl 11 (p0.map cGSortKey)))), (1, (.d (.sl 11 (p1.map cGSortKey))))], []⟩
   delta acwEqSortKeyS
   refine so ?_
   let a0 : St := ⟨[(4, (vB false)), (0, (.d (.sl 11 (p0.map cGSortKey)))), (1, (.d (.sl 11 (p1.map cGSortKey))))], []⟩
   refine st 1 a0 (nx (si (so ?_)))
   let a1 : St := a0.p [(6, (.d (.sl 11 (p0.map cGSortKey))))]
   refine st 1 a1 (ps (vI (ln p0)) (vln (sz := 11) (l := p0) (f := cGSortKey)) ?_)
   let a2 : St := a1.p [(8, (.d (.sl 11 (p1.map cGSortKey)))), (7, (vI (ln p0)))]
   refine st 1 a2 (ps (vI (ln p1)) (vln (sz := 11) (l := p1) (f := cGSortKey)) ?_)
   let a3 : St := a2.p [(10, (vB (!decide ((ln p0) = (ln p1))))), (9, (vI (ln p1)))]
   refine st 1 a3 (nx ?_)
   refine cd h (fun h => ?_) fun h => ?_
   refine so ?_
   let a4 : St := a3.p [(4, (vB false))]
   refine st 1 a4 (nx (ri (tr ?_)))
   injection h with h; subst h
   exact r1 (v := (vB false))
   refine ki (xi (si (so ?_)))
   let a5 : St := a3.p [(5, (vI 0))]
   exact st 1 a5 (nx (bi (loop_go (s' := stwEqSortKeyS_L0 p0 p1 0) (wr [] (es (es (es er_nil))) br_nil) (OK_wEqSortKeyS_L0 p0 p1 0 _ h))))
 · intro F_wEqSortKeyS_L0 F_wEqSortKey OK_wEqSortKeyS_L0 OK_wEqSortKey p0 p1 x5 r h
   delta acwEqSortKeyS_L0
   refine loop_unroll (si (so ?_))
   let a6 : St := (stwEqSortKeyS_L0 p0 p1 x5).p [(12, (.d (.sl 11 (p0.map cGSortKey)))), (11, (vI x5))]
   refine st 2 a6 (ps (vI (ln p0)) (vln (sz := 11) (l := p0) (f := cGSortKey)) ?_)
   let a7 : St := a6.p [(14, (vB (decide (x5 < (ln p0))))), (13, (vI (ln p0)))]
   refine st 1 a7 (nx ?_)
   refine cd h (fun h => ?_) fun h => ?_
   refine ki (xi (si (bi (si (dops_in ?_)))))
   let a8 : St := a7.p [(18, (vI x5)), (17, (.d (.sl 11 (p0.map cGSortKey))))]
   refine dsts_ok 2 (s' := a8) (by kernel_rfl) (dv_step (m := idx p0 x5) (v' := fun y => (.rp (oGSortKey y))) h rfl rfl (fun y hy => via (l := p0) (f := cGSortKey) (g := oGSortKey) (k := .i64) hy cGSortKey_eq) ?_)
   clear h; intro y1 h
   let a9 : St := a8.p [(22, (vI x5)), (21, (.d (.sl 11 (p1.map cGSortKey)))), (20, (vGSortKey y1)), (19, (.rp (oGSortKey y1)))]
   refine dsts_ok 3 (s' := a9) (by kernel_rfl) (dv_step (m := idx p1 x5) (v' := fun y => (.rp (oGSortKey y))) h rfl rfl (fun y hy => via (l := p1) (f := cGSortKey) (g := oGSortKey) (k := .i64) hy cGSortKey_eq) ?_)
   clear h; intro y2 h
   let a10 : St := a9.p [(24, (vGSortKey y2)), (23, (.rp (oGSortKey y2)))]
   refine dsts_ok 1 (s' := a10) (by kernel_rfl) (dcall_step (m := F_wEqSortKey y1 y2) (args := [(vGSortKey y1), (vGSortKey y2)]) (v' := (fun y => (vB y))) h (OK_wEqSortKey y1 y2) (by kernel_rfl) (by kernel_rfl) (fun _ => rfl) ?_)
   clear h; intro y3 h
   let a11 : St := a10.p [(26, (vB (!y3))), (25, (vB y3))]
   refine dsts_ok 1 (s' := a11) (by kernel_rfl) (dnil_in (by kernel_rfl) (by kernel_rfl) (xi ?_))
   refine cd h (fun h => ?_) fun h => ?_
   refine so ?_
   let a12 : St := a11.p [(4, (vB false))]
   refine st 1 a12 (nx (ri (br (tr (tr (br (tr ?_)))))))
   injection h with h; subst h
   exact r1 (v := (vB false))
   refine ki (bn (xi (oi ?_)))
   let a13 : St := a11.p [(5, (vI (IntKind.wrap .i64 (x5 + 1)))), (16, (vI (IntKind.wrap .i64 (x5 + 1)))), (15, (vI x5))]
   exact st 3 a13 (ni (loop_back (s' := stwEqSortKeyS_L0 p0 p1 (IntKind.wrap .i64 (x5 + 1))) (wr [] (es (es (es er_nil))) br_nil) (OK_wEqSortKeyS_L0 p0 p1 (IntKind.wrap .i64 (x5 + 1)) _ h)))
   refine ei (te (te (bh (xi (so ?_)))))
   let a14 : St := a7.p [(4, (vB true))]
   refine st 1 a14 (nx (ri ?_))
   injection h with h; subst h
   exact r1 (v := (vB true))
 · intro F_wEqExpr OK_wEqExpr p0 p1 r h
   refine aof trwEqSortKey ?_
   show avc Tryz.prog acwEqSortKey (qwEqSortKey _) ⟨[(0, (vGSortKey p0)), (1, (vGSortKey p1))], []⟩
   delta acwEqSortKey
   refine so ?_
   let a0 : St := ⟨[(4, (vB false)), (3, (.ptr 3 0)), (2, (.ptr 2 0)), (0, (vGSortKey p0)), (1, (vGSortKey p1))], [(3, bGSortKey p1), (2, bGSortKey p0)]⟩
   refine st 3 a0 (nx (si (so ?_)))
   let a1 : St := a0.p [(8, (vGExpr p1.expr)), (7, (.ptr 3 0)), (6, (vGExpr p0.expr)), (5, (.ptr 2 0))]
   refine st 4 a1 (cs h (OK_wEqExpr p0.expr p1.expr) fun y1 h => ?_)
   let a2 : St := a1.p [(10, (vB (!y1))), (9, (vB y1))]
   refine st 1 a2 (nx ?_)
   refine cd h (fun h => ?_) fun h => ?_
   refine so ?_
   let a3 : St := a2.p [(4, (vB false))]
   refine st 1 a3 (nx (ri (tr ?_)))
   injection h with h; subst h
   exact r1 (v := (vB false))
   refine ki (xi (si (so ?_)))
   let a4 : St := a2.p [(15, (vB (!(p0.desc == p1.desc)))), (14, (vB p1.desc)), (13, (.ptr 3 10)), (12, (vB p0.desc)), (11, (.ptr 2 10))]
   refine st 5 a4 (nx ?_)
   refine cd h (fun h => ?_) fun h => ?_
   refine so ?_
   let a5 : St := a4.p [(4, (vB false))]
   refine st 1 a5 (nx (ri (tr ?_)))
   injection h with h; subst h
   exact r1 (v := (vB false))
   refine ki (xi (so ?_))
   let a6 : St := a4.p [(4, (vB true))]
   refine st 1 a6 (nx (ri ?_))
   injection h with h; subst h
   exact r1 (v := (vB true))
 · intro F_wEqSourceS_L0 OK_wEqSourceS_L0 p0 p1 r h
   refine aof trwEqSourceS ?_
   show avc Tryz.prog acwEqSourceS (qwEqSourceS _) ⟨[(0, (.d (.sl 3 (p0.map cGSource)))), (1, (.d (.sl 3 (p1.map cGSource))))], []⟩
   delta acwEqSourceS
   refine so ?_
   let a0 : St := ⟨[(4, (vB false)), (0, (.d (.sl 3 (p0.map cGSource)))), (1, (.d (.sl 3 (p1.map cGSource))))], []⟩
   refine st 1 a0 (nx (si (so ?_)))
   let a1 : St := a0.p [(6, (.d (.sl 3 (p0.map cGSource))))]
   refine st 1 a1 (ps (vI (ln p0)) (vln (sz := 3) (l := p0) (f := cGSource)) ?_)
   let a2 : St := a1.p [(8, (.d (.sl 3 (p1.map cGSource)))), (7, (vI (ln p0)))]
   refine st 1 a2 (ps (vI (ln p1)) (vln (sz := 3) (l := p1) (f := cGSource)) ?_)
   let a3 : St := a2.p [(10, (vB (!decide ((ln p0) = (ln p1))))), (9, (vI (ln p1)))]
   refine st 1 a3 (nx ?_)
   refine cd h (fun h => ?_) fun h => ?_
   refine so ?_
   let a4 : St := a3.p [(4, (vB false))]
   refine st 1 a4 (nx (ri (tr ?_)))
   injection h with h; subst h
   exact r1 (v := (vB false))
   refine ki (xi (si (so ?_)))
   let a5 : St := a3.p [(5, (vI 0))]
   exact st 1 a5 (nx (bi (loop_go (s' := stwEqSourceS_L0 p0 p1 0) (wr [] (es (es (es er_nil))) br_nil) (OK_wEqSourceS_L0 p0 p1 0 _ h))))
 · intro F_wEqSource F_wEqSourceS_L0 OK_wEqSource OK_wEqSourceS_L0 p0 p1 x5 r h
   delta acwEqSourceS_L0
   refine loop_unroll (si (so ?_))
   let a6 : St := (stwEqSourceS_L0 p0 p1 x5).p [(12, (.d (.sl 3 (p0.map cGSource)))), (11, (vI x5))]
   refine st 2 a6 (ps (vI (ln p0)) (vln (sz := 3) (l := p0) (f := cGSource)) ?_)
   let a7 : St := a6.p [(14, (vB (decide (x5 < (ln p0))))), (13, (vI (ln p0)))]
   refine st 1 a7 (nx ?_)
   refine cd h (fun h => ?_) fun h => ?_
   refine ki (xi (si (bi (si (dops_in ?_)))))
   let a8 : St := a7.p [(18, (vI x5)), (17, (.d (.sl 3 (p0.map cGSource))))]
   refine dsts_ok 2 (s' := a8) (by kernel_rfl) (dv_step (m := idx p0 x5) (v' := fun y => (.rp (oGSource y))) h rfl rfl (fun y hy => via (l := p0) (f := cGSource) (g := oGSource) (k := .i64) hy cGSource_eq) ?_)
   clear h; intro y1 h
   let a9 : St := a8.p [(22, (vI x5)), (21, (.d (.sl 3 (p1.map cGSource)))), (20, (vGSource y1)), (19, (.rp (oGSource y1)))]
   refine dsts_ok 3 (s' := a9) (by kernel_rfl) (dv_step (m := idx p1 x5) (v' := fun y => (.rp (oGSource y))) h rfl rfl (fun y hy => via (l := p1) (f := cGSource) (g := oGSource) (k := .i64) hy cGSource_eq) ?_)
   clear h; intro y2 h
   let a10 : St := a9.p [(24, (vGSource y2)), (23, (.rp (oGSource y2)))]
   refine dsts_ok 1 (s' := a10) (by kernel_rfl) (dcall_step (m := F_wEqSource y1 y2) (args := [(vGSource y1), (vGSource y2)]) (v' := (fun y => (vB y))) h (OK_wEqSource y1 y2) (by kernel_rfl) (by kernel_rfl) (fun _ => rfl) ?_)
   clear h; intro y3 h
   let a11 : St := a10.p [(26, (vB (!y3))), (25, (vB y3))]
   refine dsts_ok 1 (s' := a11) (by kernel_rfl) (dnil_in (by kernel_rfl) (by kernel_rfl) (xi ?_))
   refine cd h (fun h => ?_) fun h => ?_
   refine so ?_
   let a12 : St := a11.p [(4, (vB false))]
   refine st 1 a12 (nx (ri (br (tr (tr (br (tr ?_)))))))
   injection h with h; subst h
   exact r1 (v := (vB false))
   refine ki (bn (xi (oi ?_)))
   let a13 : St := a11.p [(5, (vI (IntKind.wrap .i64 (x5 + 1)))), (16, (vI (IntKind.wrap .i64 (x5 + 1)))), (15, (vI x5))]
   exact st 3 a13 (ni (loop_back (s' := stwEqSourceS_L0 p0 p1 (IntKind.wrap .i64 (x5 + 1))) (wr [] (es (es (es er_nil))) br_nil) (OK_wEqSourceS_L0 p0 p1 (IntKind.wrap .i64 (x5 + 1)) _ h)))
   refine ei (te (te (bh (xi (so ?_)))))
   let a14 : St := a7.p [(4, (vB true))]
   refine st 1 a14 (nx (ri ?_))
   injection h with h; subst h
   exact r1 (v := (vB true))
 · intro F_wEqItemS_L0 OK_wEqItemS_L0 p0 p1 r h
   refine aof trwEqItemS ?_
   show avc Tryz.prog acwEqItemS (qwEqItemS _) ⟨[(0, (.d (.sl 13 (p0.map cGItem)))), (1, (.d (.sl 13 (p1.map cGItem))))], []⟩
   delta acwEqItemS
   refine so ?_
   let a0 : St := ⟨[(4, (vB false)), (0, (.d (.sl 13 (p0.map cGItem)))), (1, (.d (.sl 13 (p1.map cGItem))))], []⟩
   refine st 1 a0 (nx (si (so ?_)))
   let a1 : St := a0.p [(6, (.d (.sl 13 (p0.map cGItem))))]
   refine st 1 a1 (ps (vI (ln p0)) (vln (sz := 13) (l := p0) (f := cGItem)) ?_)
   let a2 : St := a1.p [(8, (.d (.sl 13 (p1.map cGItem)))), (7, (vI (ln p0)))]
   refine st 1 a2 (ps (vI (ln p1)) (vln (sz := 13) (l := p1) (f := cGItem)) ?_)
   let a3 : St := a2.p [(10, (vB (!decide ((ln p0) = (ln p1))))), (9, (vI (ln p1)))]
   refine st 1 a3 (nx ?_)
   refine cd h (fun h => ?_) fun h => ?_
   refine so ?_
   let a4 : St := a3.p [(4, (vB false))]
   refine st 1 a4 (nx (ri (tr ?_)))
   injection h with h; subst h
   exact r1 (v := (vB false))
   refine ki (xi (si (so ?_)))
   let a5 : St := a3.p [(5, (vI 0))]
   exact st 1 a5 (nx (bi (loop_go (s' := stwEqItemS_L0 p0 p1 0) (wr [] (es (es (es er_nil))) br_nil) (OK_wEqItemS_L0 p0 p1 0 _ h))))
 · intro F_wEqItemS_L0 F_wEqItem OK_wEqItemS_L0 OK_wEqItem p0 p1 x5 r h
   delta acwEqItemS_L0
   refine loop_unroll (si (so ?_))
   let a6 : St := (stwEqItemS_L0 p0 p1 x5).p [(12, (.d (.sl 13 (p0.map cGItem)))), (11, (vI x5))]
   refine st 2 a6 (ps (vI (ln p0)) (vln (sz := 13) (l := p0) (f := cGItem)) ?_)
   let a7 : St := a6.p [(14, (vB (decide (x5 < (ln p0))))), (13, (vI (ln p0)))]
   refine st 1 a7 (nx ?_)
   refine cd h (fun h => ?_) fun h => ?_
   refine ki (xi (si (bi (si (dops_in ?_)))))
   let a8 : St := a7.p [(18, (vI x5)), (17, (.d (.sl 13 (p0.map cGItem))))]
   refine dsts_ok 2 (s' := a8) (by kernel_rfl) (dv_step (m := idx p0 x5) (v' := fun y => (.rp (oGItem y))) h rfl rfl (fun y hy => via (l := p0) (f := cGItem) (g := oGItem) (k := .i64) hy cGItem_eq) ?_)
   clear h; intro y1 h
   let a9 : St := a8.p [(22, (vI x5)), (21, (.d (.sl 13 (p1.map cGItem)))), (20, (vGItem y1)), (19, (.rp (oGItem y1)))]
   refine dsts_ok 3 (s' := a9) (by kernel_rfl) (dv_step (m := idx p1 x5) (v' := fun y => (.rp (oGItem y))) h rfl rfl (fun y hy => via (l := p1) (f := cGItem) (g := oGItem) (k := .i64) hy cGItem_eq) ?_)
   clear h; intro y2 h
   let a10 : St := a9.p [(24, (vGItem y2)), (23, (.rp (oGItem y2)))]
   refine dsts_ok 1 (s' := a10) (by kernel_rfl) (dcall_step (m := F_wEqItem y1 y2) (args := [(vGItem y1), (vGItem y2)]) (v' := (fun y => (vB y))) h (OK_wEqItem y1 y2) (by kernel_rfl) (by kernel_rfl) (fun _ => rfl) ?_)
   clear h; intro y3 h
   let a11 : St := a10.p [(26, (vB (!y3))), (25, (vB y3))]
   refine dsts_ok 1 (s' := a11) (by kernel_rfl) (dnil_in (by kernel_rfl) (by kernel_rfl) (xi ?_))
   refine cd h (fun h => ?_) fun h => ?_
   refine so ?_
   let a12 : St := a11.p [(4, (vB false))]
   refine st 1 a12 (nx (ri (br (tr (tr (br (tr ?_)))))))
   injection h with h; subst h
   exact r1 (v := (vB false))
   refine ki (bn (xi (oi ?_)))
   let a13 : St := a11.p [(5, (vI (IntKind.wrap .i64 (x5 + 1)))), (16, (vI (IntKind.wrap .i64 (x5 + 1)))), (15, (vI x5))]
   exact st 3 a13 (ni (loop_back (s' := stwEqItemS_L0 p0 p1 (IntKind.wrap .i64 (x5 + 1))) (wr [] (es (es (es er_nil))) br_nil) (OK_wEqItemS_L0 p0 p1 (IntKind.wrap .i64 (x5 + 1)) _ h)))
   refine ei (te (te (bh (xi (so ?_)))))
   let a14 : St := a7.p [(4, (vB true))]
   refine st 1 a14 (nx (ri ?_))
   injection h with h; subst h
   exact r1 (v := (vB true))
 · intro F_wEqExpr OK_wEqExpr p0 p1 r h
   refine aof trwEqItem ?_
   show avc Tryz.prog acwEqItem (qwEqItem _) ⟨[(0, (vGItem p0)), (1, (vGItem p1))], []⟩
   delta acwEqItem
   refine so ?_
   let a0 : St := ⟨[(4, (vB false)), (3, (.ptr 3 0)), (2, (.ptr 2 0)), (0, (vGItem p0)), (1, (vGItem p1))], [(3, bGItem p1), (2, bGItem p0)]⟩
   refine st 3 a0 (nx (si (so ?_)))
   let a1 : St := a0.p [(9, (vB (!(p0.star == p1.star)))), (8, (vB p1.star)), (7, (.ptr 3 0)), (6, (vB p0.star)), (5, (.ptr 2 0))]
   refine st 5 a1 (nx ?_)
   refine cd h (fun h => ?_) fun h => ?_
   refine so ?_
   let a2 : St := a1.p [(4, (vB false))]
   refine st 1 a2 (nx (ri (tr ?_)))
   injection h with h; subst h
   exact r1 (v := (vB false))
   refine ki (xi (si (so ?_)))
   let a3 : St := a1.p [(14, (vB (!decide (p0.qual = p1.qual)))), (13, (vS p1.qual)), (12, (.ptr 3 1)), (11, (vS p0.qual)), (10, (.ptr 2 1))]
   refine st 5 a3 (nx ?_)
   refine cd h (fun h => ?_) fun h => ?_
   refine so ?_
   let a4 : St := a3.p [(4, (vB false))]
   refine st 1 a4 (nx (ri (tr ?_)))
   injection h with h; subst h
   exact r1 (v := (vB false))
   refine ki (xi (si (so ?_)))
   let a5 : St := a3.p [(18, (vGExpr p1.expr)), (17, (.ptr 3 2)), (16, (vGExpr p0.expr)), (15, (.ptr 2 2))]
   refine st 4 a5 (cs h (OK_wEqExpr p0.expr p1.expr) fun y1 h => ?_)
   let a6 : St := a5.p [(20, (vB (!y1))), (19, (vB y1))]
   refine st 1 a6 (nx ?_)
   refine cd h (fun h => ?_) fun h => ?_
   refine so ?_
   let a7 : St := a6.p [(4, (vB false))]
   refine st 1 a7 (nx (ri (tr ?_)))
   injection h with h; subst h
   exact r1 (v := (vB false))
   refine ki (xi (si (so ?_)))
   let a8 : St := a6.p [(25, (vB (!decide (p0.as_ = p1.as_)))), (24, (vS p1.as_)), (23, (.ptr 3 12)), (22, (vS p0.as_)), (21, (.ptr 2 12))]
   refine st 5 a8 (nx ?_)
   refine cd h (fun h => ?_) fun h => ?_
   refine so ?_
   let a9 : St := a8.p [(4, (vB false))]
   refine st 1 a9 (nx (ri (tr ?_)))
   injection h with h; subst h
   exact r1 (v := (vB false))
   refine ki (xi (so ?_))
   let a10 : St := a8.p [(4, (vB true))]
   refine st 1 a10 (nx (ri ?_))
   injection h with h; subst h
   exact r1 (v := (vB true))
theorem OK_wEqSource (p0 : GSource) (p1 : GSource) : FOk Tryz.prog 101 [(vGSource p0), (vGSource p1)] (fun y => (vB y)) (wEqSource p0 p1) := fun r h => (OKs_wEqSource).1 p0 p1 r h
theorem OK_wEqExprS (p0 : (List GExpr)) (p1 : (List GExpr)) : FOk Tryz.prog 35 [(.d (.sl 10 (p0.map cGExpr))), (.d (.sl 10 (p1.map cGExpr)))] (fun y => (vB y)) (wEqExprS p0 p1) := fun r h => (OKs_wEqSource).2.1 p0 p1 r h
theorem OK_wEqExprS_L0 (p0 : (List GExpr)) (p1 : (List GExpr)) (x5 : Int) (r : Bool) (h : wEqExprS_L0 p0 p1 x5 = some r) : avc Tryz.prog acwEqExprS_L0 (qwEqExprS_1 r) (stwEqExprS_L0 p0 p1 x5) := (OKs_wEqSource).2.2.1 p0 p1 x5 r h
theorem OK_wEqExpr (p0 : GExpr) (p1 : GExpr) : FOk Tryz.prog 74 [(vGExpr p0), (vGExpr p1)] (fun y => (vB y)) (wEqExpr p0 p1) := fun r h => (OKs_wEqSource).2.2.2.1 p0 p1 r h
theorem OK_wEqQueryS (p0 : (List GQuery)) (p1 : (List GQuery)) : FOk Tryz.prog 104 [(.d (.sl 6 (p0.map cGQuery))), (.d (.sl 6 (p1.map cGQuery)))] (fun y => (vB y)) (wEqQueryS p0 p1) := fun r h => (OKs_wEqSource).2.2.2.2.1 p0 p1 r h
theorem OK_wEqQueryS_L0 (p0 : (List GQuery)) (p1 : (List GQuery)) (x5 : Int) (r : Bool) (h : wEqQueryS_L0 p0 p1 x5 = some r) : avc Tryz.prog acwEqQueryS_L0 (qwEqQueryS_1 r) (stwEqQueryS_L0 p0 p1 x5) := (OKs_wEqSource).2.2.2.2.2.1 p0 p1 x5 r h
theorem OK_wEqQuery (p0 : GQuery) (p1 : GQuery) : FOk Tryz.prog 32 [(vGQuery p0), (vGQuery p1)] (fun y => (vB y)) (wEqQuery p0 p1) := fun r h => (OKs_wEqSource).2.2.2.2.2.2.1 p0 p1 r h
theorem OK_wEqSortKeyS (p0 : (List GSortKey)) (p1 : (List GSortKey)) : FOk Tryz.prog 73 [(.d (.sl 11 (p0.map cGSortKey))), (.d (.sl 11 (p1.map cGSortKey)))] (fun y => (vB y)) (wEqSortKeyS p0 p1) := fun r h => (OKs_wEqSource).2.2.2.2.2.2.2.1 p0 p1 r h
theorem OK_wEqSortKeyS_L0 (p0 : (List GSortKey)) (p1 : (List GSortKey)) (x5 : Int) (r : Bool) (h : wEqSortKeyS_L0 p0 p1 x5 = some r) : avc Tryz.prog acwEqSortKeyS_L0 (qwEqSortKeyS_1 r) (stwEqSortKeyS_L0 p0 p1 x5) := (OKs_wEqSource).2.2.2.2.2.2.2.2.1 p0 p1 x5 r h
theorem OK_wEqSortKey (p0 : GSortKey) (p1 : GSortKey) : FOk Tryz.prog 102 [(vGSortKey p0), (vGSortKey p1)] (fun y => (vB y)) (wEqSortKey p0 p1) := fun r h => (OKs_wEqSource).2.2.2.2.2.2.2.2.2.1 p0 p1 r h
theorem OK_wEqSourceS (p0 : (List GSource)) (p1 : (List GSource)) : FOk Tryz.prog 72 [(.d (.sl 3 (p0.map cGSource))), (.d (.sl 3 (p1.map cGSource)))] (fun y => (vB y)) (wEqSourceS p0 p1) := fun r h => (OKs_wEqSource).2.2.2.2.2.2.2.2.2.2.1 p0 p1 r h
theorem OK_wEqSourceS_L0 (p0 : (List GSource)) (p1 : (List GSource)) (x5 : Int) (r : Bool) (h : wEqSourceS_L0 p0 p1 x5 = some r) : avc Tryz.prog acwEqSourceS_L0 (qwEqSourceS_1 r) (stwEqSourceS_L0 p0 p1 x5) := (OKs_wEqSource).2.2.2.2.2.2.2.2.2.2.2.1 p0 p1 x5 r h
theorem OK_wEqItemS (p0 : (List GItem)) (p1 : (List GItem)) : FOk Tryz.prog 71 [(.d (.sl 13 (p0.map cGItem))), (.d (.sl 13 (p1.map cGItem)))] (fun y => (vB y)) (wEqItemS p0 p1) := fun r h => (OKs_wEqSource).2.2.2.2.2.2.2.2.2.2.2.2.1 p0 p1 r h
theorem OK_wEqItemS_L0 (p0 : (List GItem)) (p1 : (List GItem)) (x5 : Int) (r : Bool) (h : wEqItemS_L0 p0 p1 x5 = some r) : avc Tryz.prog acwEqItemS_L0 (qwEqItemS_1 r) (stwEqItemS_L0 p0 p1 x5) := (OKs_wEqSource).2.2.2.2.2.2.2.2.2.2.2.2.2.1 p0 p1 x5 r h
theorem OK_wEqItem (p0 : GItem) (p1 : GItem) : FOk Tryz.prog 100 [(vGItem p0), (vGItem p1)] (fun y => (vB y)) (wEqItem p0 p1) := fun r h => (OKs_wEqSource).2.2.2.2.2.2.2.2.2.2.2.2.2.2 p0 p1 r h
theorem OKs_wEqExprSS_L0 (p0 : (List (List GExpr))) (p1 : (List (List GExpr))) : (∀ (x5 : Int) (r : Bool), wEqExprSS_L0 p0 p1 x5 = some r → avc Tryz.prog acwEqExprSS_L0 (qwEqExprSS_1 r) (stwEqExprSS_L0 p0 p1 x5)) := by
 refine wEqExprSS_L0.partial_correctness p0 p1 (fun x5 r => avc Tryz.prog acwEqExprSS_L0 (qwEqExprSS_1 r) (stwEqExprSS_L0 p0 p1 x5)) ?_
 · intro F_wEqExprSS_L0 OK_wEqExprSS_L0 x5 r h
   delta acwEqExprSS_L0
   refine loop_unroll (si (so ?_))
   let a6 : St := (stwEqExprSS_L0 p0 p1 x5).p [(12, (.d (.sl 1 (p0.map (cSl 10 cGExpr))))), (11, (vI x5))]
   refine st 2 a6 (ps (vI (ln p0)) (vln (sz := 1) (l := p0) (f := (cSl 10 cGExpr))) ?_)
   let a7 : St := a6.p [(14, (vB (decide (x5 < (ln p0))))), (13, (vI (ln p0)))]
   refine st 1 a7 (nx ?_)
   refine cd h (fun h => ?_) fun h => ?_
   refine ki (xi (si (bi (si (dops_in ?_)))))
   let a8 : St := a7.p [(18, (vI x5)), (17, (.d (.sl 1 (p0.map (cSl 10 cGExpr)))))]
   refine dsts_ok 2 (s' := a8) (by kernel_rfl) (dv_step (m := idx p0 x5) (v' := fun y => (.rp [(.sl 10 (y.map cGExpr))])) h rfl rfl (fun y hy => via (l := p0) (f := (cSl 10 cGExpr)) (g := (cSl 10 cGExpr)) (k := .i64) hy (fun _ => rfl)) ?_)
   clear h; intro y1 h
   let a9 : St := a8.p [(22, (vI x5)), (21, (.d (.sl 1 (p1.map (cSl 10 cGExpr))))), (20, (.d (.sl 10 (y1.map cGExpr)))), (19, (.rp [(.sl 10 (y1.map cGExpr))]))]
   refine dsts_ok 3 (s' := a9) (by kernel_rfl) (dv_step (m := idx p1 x5) (v' := fun y => (.rp [(.sl 10 (y.map cGExpr))])) h rfl rfl (fun y hy => via (l := p1) (f := (cSl 10 cGExpr)) (g := (cSl 10 cGExpr)) (k := .i64) hy (fun _ => rfl)) ?_)
   clear h; intro y2 h
   let a10 : St := a9.p [(24, (.d (.sl 10 (y2.map cGExpr)))), (23, (.rp [(.sl 10 (y2.map cGExpr))]))]
   refine dsts_ok 1 (s' := a10) (by kernel_rfl) (dcall_step (m := wEqExprS y1 y2) (args := [(.d (.sl 10 (y1.map cGExpr))), (.d (.sl 10 (y2.map cGExpr)))]) (v' := (fun y => (vB y))) h (OK_wEqExprS y1 y2) (by kernel_rfl) (by kernel_rfl) (fun _ => rfl) ?_)
   clear h; intro y3 h
   let a11 : St := a10.p [(26, (vB (!y3))), (25, (vB y3))]
   refine dsts_ok 1 (s' := a11) (by kernel_rfl) (dnil_in (by kernel_rfl) (by kernel_rfl) (xi ?_))
   refine cd h (fun h => ?_) fun h => ?_
   refine so ?_
   let a12 : St := a11.p [(4, (vB false))]
   refine st 1 a12 (nx (ri (br (tr (tr (br (tr ?_)))))))
   injection h with h; subst h
   exact r1 (v := (vB false))
   refine ki (bn (xi (oi ?_)))
   let a13 : St := a11.p [(5, (vI (IntKind.wrap .i64 (x5 + 1)))), (16, (vI (IntKind.wrap .i64 (x5 + 1)))), (15, (vI x5))]
   exact st 3 a13 (ni (loop_back (s' := stwEqExprSS_L0 p0 p1 (IntKind.wrap .i64 (x5 + 1))) (wr [] (es (es (es er_nil))) br_nil) (OK_wEqExprSS_L0 (IntKind.wrap .i64 (x5 + 1)) _ h)))
   refine ei (te (te (bh (xi (so ?_)))))
   let a14 : St := a7.p [(4, (vB true))]
   refine st 1 a14 (nx (ri ?_))
   injection h with h; subst h
   exact r1 (v := (vB true))
theorem OK_wEqExprSS_L0 (p0 : (List (List GExpr))) (p1 : (List (List GExpr))) (x5 : Int) (r : Bool) (h : wEqExprSS_L0 p0 p1 x5 = some r) : avc Tryz.prog acwEqExprSS_L0 (qwEqExprSS_1 r) (stwEqExprSS_L0 p0 p1 x5) := (OKs_wEqExprSS_L0 p0 p1) x5 r h
theorem OK_wEqExprSS (p0 : (List (List GExpr))) (p1 : (List (List GExpr))) : FOk Tryz.prog 33 [(.d (.sl 1 (p0.map (cSl 10 cGExpr)))), (.d (.sl 1 (p1.map (cSl 10 cGExpr))))] (fun y => (vB y)) (wEqExprSS p0 p1) := by
 intro r h
 rw [wEqExprSS] at h
 refine aof trwEqExprSS ?_
 show avc Tryz.prog acwEqExprSS (qwEqExprSS _) ⟨[(0, (.d (.sl 1 (p0.map (cSl 10 cGExpr))))), (1, (.d (.sl 1 (p1.map (cSl 10 cGExpr)))))], []⟩
 delta acwEqExprSS
 refine so ?_
 let a0 : St := ⟨[(4, (vB false)), (0, (.d (.sl 1 (p0.map (cSl 10 cGExpr))))), (1, (.d (.sl 1 (p1.map (cSl 10 cGExpr)))))], []⟩
 refine st 1 a0 (nx (si (so ?_)))
 let a1 : St := a0.p [(6, (.d (.sl 1 (p0.map (cSl 10 cGExpr)))))]
 refine st 1 a1 (ps (vI (ln p0)) (vln (sz := 1) (l := p0) (f := (cSl 10 cGExpr))) ?_)
 let a2 : St := a1.p [(8, (.d (.sl 1 (p1.map (cSl 10 cGExpr))))), (7, (vI (ln p0)))]
 refine st 1 a2 (ps (vI (ln p1)) (vln (sz := 1) (l := p1) (f := (cSl 10 cGExpr))) ?_)
 let a3 : St := a2.p [(10, (vB (!decide ((ln p0) = (ln p1))))), (9, (vI (ln p1)))]
 refine st 1 a3 (nx ?_)
 refine cd h (fun h => ?_) fun h => ?_
 refine so ?_
 let a4 : St := a3.p [(4, (vB false))]
 refine st 1 a4 (nx (ri (tr ?_)))
 injection h with h; subst h
 exact r1 (v := (vB false))
 refine ki (xi (si (so ?_)))
 let a5 : St := a3.p [(5, (vI 0))]
 exact st 1 a5 (nx (bi (loop_go (s' := stwEqExprSS_L0 p0 p1 0) (wr [] (es (es (es er_nil))) br_nil) (OK_wEqExprSS_L0 p0 p1 0 _ h))))
theorem OKs_wEqStringS_L0 (p0 : (List (List UInt8))) (p1 : (List (List UInt8))) : (∀ (x5 : Int) (r : Bool), wEqStringS_L0 p0 p1 x5 = some r → avc Tryz.prog acwEqStringS_L0 (qwEqStringS_1 r) (stwEqStringS_L0 p0 p1 x5)) := by
 refine wEqStringS_L0.partial_correctness p0 p1 (fun x5 r => avc Tryz.prog acwEqStringS_L0 (qwEqStringS_1 r) (stwEqStringS_L0 p0 p1 x5)) ?_
 · intro F_wEqStringS_L0 OK_wEqStringS_L0 x5 r h
   delta acwEqStringS_L0
   refine loop_unroll (si (so ?_))
   let a6 : St := (stwEqStringS_L0 p0 p1 x5).p [(12, (.d (.sl 1 (p0.map cStr)))), (11, (vI x5))]
   refine st 2 a6 (ps (vI (ln p0)) (vln (sz := 1) (l := p0) (f := cStr)) ?_)
   let a7 : St := a6.p [(14, (vB (decide (x5 < (ln p0))))), (13, (vI (ln p0)))]
   refine st 1 a7 (nx ?_)
   refine cd h (fun h => ?_) fun h => ?_
   refine ki (xi (si (bi (si (dops_in ?_)))))
   let a8 : St := a7.p [(18, (vI x5)), (17, (.d (.sl 1 (p0.map cStr))))]
   refine dsts_ok 2 (s' := a8) (by kernel_rfl) (dv_step (m := idx p0 x5) (v' := fun y => (.rp [(.s (bs y))])) h rfl rfl (fun y hy => via (l := p0) (f := cStr) (g := cStr) (k := .i64) hy (fun _ => rfl)) ?_)
   clear h; intro y1 h
   let a9 : St := a8.p [(22, (vI x5)), (21, (.d (.sl 1 (p1.map cStr)))), (20, (vS y1)), (19, (.rp [(.s (bs y1))]))]
   refine dsts_ok 3 (s' := a9) (by kernel_rfl) (dv_step (m := idx p1 x5) (v' := fun y => (.rp [(.s (bs y))])) h rfl rfl (fun y hy => via (l := p1) (f := cStr) (g := cStr) (k := .i64) hy (fun _ => rfl)) ?_)
   clear h; intro y2 h
   let a10 : St := a9.p [(25, (vB (!decide (y1 = y2)))), (24, (vS y2)), (23, (.rp [(.s (bs y2))]))]
   refine dsts_ok 2 (s' := a10) (by kernel_rfl) (dnil_in (by kernel_rfl) (by kernel_rfl) (xi ?_))
   refine cd h (fun h => ?_) fun h => ?_
   refine so ?_
   let a11 : St := a10.p [(4, (vB false))]
   refine st 1 a11 (nx (ri (br (tr (tr (br (tr ?_)))))))
   injection h with h; subst h
   exact r1 (v := (vB false))
   refine ki (bn (xi (oi ?_)))
   let a12 : St := a10.p [(5, (vI (IntKind.wrap .i64 (x5 + 1)))), (16, (vI (IntKind.wrap .i64 (x5 + 1)))), (15, (vI x5))]
   exact st 3 a12 (ni (loop_back (s' := stwEqStringS_L0 p0 p1 (IntKind.wrap .i64 (x5 + 1))) (wr [] (es (es (es er_nil))) br_nil) (OK_wEqStringS_L0 (IntKind.wrap .i64 (x5 + 1)) _ h)))
   refine ei (te (te (bh (xi (so ?_)))))
   let a13 : St := a7.p [(4, (vB true))]
   refine st 1 a13 (nx (ri ?_))
   injection h with h; subst h
   exact r1 (v := (vB true))
theorem OK_wEqStringS_L0 (p0 : (List (List UInt8))) (p1 : (List (List UInt8))) (x5 : Int) (r : Bool) (h : wEqStringS_L0 p0 p1 x5 = some r) : avc Tryz.prog acwEqStringS_L0 (qwEqStringS_1 r) (stwEqStringS_L0 p0 p1 x5) := (OKs_wEqStringS_L0 p0 p1) x5 r h
theorem OK_wEqStringS (p0 : (List (List UInt8))) (p1 : (List (List UInt8))) : FOk Tryz.prog 34 [(.d (.sl 1 (p0.map cStr))), (.d (.sl 1 (p1.map cStr)))] (fun y => (vB y)) (wEqStringS p0 p1) := by
 intro r h
 rw [wEqStringS] at h
 refine aof trwEqStringS ?_
 show avc Tryz.prog acwEqStringS (qwEqStringS _) ⟨[(0, (.d (.sl 1 (p0.map cStr)))), (1, (.d (.sl 1 (p1.map cStr))))], []⟩
 delta acwEqStringS
 refine so ?_
 let a0 : St := ⟨[(4, (vB false)), (0, (.d (.sl 1 (p0.map cStr)))), (1, (.d (.sl 1 (p1.map cStr))))], []⟩
 refine st 1 a0 (nx (si (so ?_)))
 let a1 : St := a0.p [(6, (.d (.sl 1 (p0.map cStr))))]
 refine st 1 a1 (ps (vI (ln p0)) (vln (sz := 1) (l := p0) (f := cStr)) ?_)
 let a2 : St := a1.p [(8, (.d (.sl 1 (p1.map cStr)))), (7, (vI (ln p0)))]
 refine st 1 a2 (ps (vI (ln p1)) (vln (sz := 1) (l := p1) (f := cStr)) ?_)
 let a3 : St := a2.p [(10, (vB (!decide ((ln p0) = (ln p1))))), (9, (vI (ln p1)))]
 refine st 1 a3 (nx ?_)
 refine cd h (fun h => ?_) fun h => ?_
 refine so ?_
 let a4 : St := a3.p [(4, (vB false))]
 refine st 1 a4 (nx (ri (tr ?_)))
 injection h with h; subst h
 exact r1 (v := (vB false))
 refine ki (xi (si (so ?_)))
 let a5 : St := a3.p [(5, (vI 0))]
 exact st 1 a5 (nx (bi (loop_go (s' := stwEqStringS_L0 p0 p1 0) (wr [] (es (es (es er_nil))) br_nil) (OK_wEqStringS_L0 p0 p1 0 _ h))))
theorem OK_wEqStmt (p0 : GStmt) (p1 : GStmt) : FOk Tryz.prog 8 [(vGStmt p0), (vGStmt p1)] (fun y => (vB y)) (wEqStmt p0 p1) := by
 intro r h
 rw [wEqStmt] at h
 refine aof trwEqStmt ?_
 show avc Tryz.prog acwEqStmt (qwEqStmt _) ⟨[(0, (vGStmt p0)), (1, (vGStmt p1))], []⟩
 delta acwEqStmt
 refine so ?_
 let a0 : St := ⟨[(4, (vB false)), (3, (.ptr 3 0)), (2, (.ptr 2 0)), (0, (vGStmt p0)), (1, (vGStmt p1))], [(3, bGStmt p1), (2, bGStmt p0)]⟩
 refine st 3 a0 (nx (si (so ?_)))
 let a1 : St := a0.p [(9, (vB (!decide (p0.kind = p1.kind)))), (8, (vI p1.kind)), (7, (.ptr 3 0)), (6, (vI p0.kind)), (5, (.ptr 2 0))]
 refine st 5 a1 (nx ?_)
 refine cd h (fun h => ?_) fun h => ?_
 refine so ?_
 let a2 : St := a1.p [(4, (vB false))]
 refine st 1 a2 (nx (ri (tr ?_)))
 injection h with h; subst h
 exact r1 (v := (vB false))
 refine ki (xi (si (so ?_)))
 let a3 : St := a1.p [(13, (vGQuery p1.query)), (12, (.ptr 3 1)), (11, (vGQuery p0.query)), (10, (.ptr 2 1))]
 refine st 4 a3 (cs h (OK_wEqQuery p0.query p1.query) fun y1 h => ?_)
 let a4 : St := a3.p [(15, (vB (!y1))), (14, (vB y1))]
 refine st 1 a4 (nx ?_)
 refine cd h (fun h => ?_) fun h => ?_
 refine so ?_
 let a5 : St := a4.p [(4, (vB false))]
 refine st 1 a5 (nx (ri (tr ?_)))
 injection h with h; subst h
 exact r1 (v := (vB false))
 refine ki (xi (si (so ?_)))
 let a6 : St := a4.p [(20, (vB (!decide (p0.table = p1.table)))), (19, (vS p1.table)), (18, (.ptr 3 7)), (17, (vS p0.table)), (16, (.ptr 2 7))]
 refine st 5 a6 (nx ?_)
 refine cd h (fun h => ?_) fun h => ?_
 refine so ?_
 let a7 : St := a6.p [(4, (vB false))]
 refine st 1 a7 (nx (ri (tr ?_)))
 injection h with h; subst h
 exact r1 (v := (vB false))
 refine ki (xi (si (so ?_)))
 let a8 : St := a6.p [(24, (.d (.sl 1 (p1.rows.map (cSl 10 cGExpr))))), (23, (.ptr 3 8)), (22, (.d (.sl 1 (p0.rows.map (cSl 10 cGExpr))))), (21, (.ptr 2 8))]
 refine st 4 a8 (cs h (OK_wEqExprSS p0.rows p1.rows) fun y2 h => ?_)
 let a9 : St := a8.p [(26, (vB (!y2))), (25, (vB y2))]
 refine st 1 a9 (nx ?_)
 refine cd h (fun h => ?_) fun h => ?_
 refine so ?_
 let a10 : St := a9.p [(4, (vB false))]
 refine st 1 a10 (nx (ri (tr ?_)))
 injection h with h; subst h
 exact r1 (v := (vB false))
 refine ki (xi (si (so ?_)))
 let a11 : St := a9.p [(30, (.d (.sl 1 (p1.cols.map cStr)))), (29, (.ptr 3 9)), (28, (.d (.sl 1 (p0.cols.map cStr)))), (27, (.ptr 2 9))]
 refine st 4 a11 (cs h (OK_wEqStringS p0.cols p1.cols) fun y3 h => ?_)
 let a12 : St := a11.p [(32, (vB (!y3))), (31, (vB y3))]
 refine st 1 a12 (nx ?_)
 refine cd h (fun h => ?_) fun h => ?_
 refine so ?_
 let a13 : St := a12.p [(4, (vB false))]
 refine st 1 a13 (nx (ri (tr ?_)))
 injection h with h; subst h
 exact r1 (v := (vB false))
 refine ki (xi (si (so ?_)))
 let a14 : St := a12.p [(36, (.d (.sl 10 (p1.sets.map cGExpr)))), (35, (.ptr 3 10)), (34, (.d (.sl 10 (p0.sets.map cGExpr)))), (33, (.ptr 2 10))]
 refine st 4 a14 (cs h (OK_wEqExprS p0.sets p1.sets) fun y4 h => ?_)
 let a15 : St := a14.p [(38, (vB (!y4))), (37, (vB y4))]
 refine st 1 a15 (nx ?_)
 refine cd h (fun h => ?_) fun h => ?_
 refine so ?_
 let a16 : St := a15.p [(4, (vB false))]
 refine st 1 a16 (nx (ri (tr ?_)))
 injection h with h; subst h
 exact r1 (v := (vB false))
 refine ki (xi (si (so ?_)))
 let a17 : St := a15.p [(42, (.d (.sl 10 (p1.where_.map cGExpr)))), (41, (.ptr 3 11)), (40, (.d (.sl 10 (p0.where_.map cGExpr)))), (39, (.ptr 2 11))]
 refine st 4 a17 (cs h (OK_wEqExprS p0.where_ p1.where_) fun y5 h => ?_)
 let a18 : St := a17.p [(44, (vB (!y5))), (43, (vB y5))]
 refine st 1 a18 (nx ?_)
 refine cd h (fun h => ?_) fun h => ?_
 refine so ?_
 let a19 : St := a18.p [(4, (vB false))]
 refine st 1 a19 (nx (ri (tr ?_)))
 injection h with h; subst h
 exact r1 (v := (vB false))
 refine ki (xi (so ?_))
 let a20 : St := a18.p [(4, (vB true))]
 refine st 1 a20 (nx (ri ?_))
 injection h with h; subst h
 exact r1 (v := (vB true))
theorem OK_wSzValue (p0 : GValue) (p1 : Int) : FOk Tryz.prog 78 [(vGValue p0), (vI p1)] (fun y => (vI y)) (wSzValue p0 p1) := by
 intro r h
 rw [wSzValue] at h
 refine aof trwSzValue ?_
 show avc Tryz.prog acwSzValue (qwSzValue _) ⟨[(0, (vGValue p0)), (1, (vI p1))], []⟩
 delta acwSzValue
 refine so ?_
 let a0 : St := ⟨[(4, (vI 0)), (2, (.ptr 2 0)), (0, (vGValue p0)), (1, (vI p1))], [(2, bGValue p0)]⟩
 refine st 2 a0 (nx (so ?_))
 let a1 : St := a0.p [(1, (vI (IntKind.wrap .i64 (p1 - (ln p0.text))))), (9, (vI (IntKind.wrap .i64 (p1 - (ln p0.text))))), (8, (vI (ln p0.text))), (7, (vS p0.text)), (6, (.ptr 2 2)), (5, (vI p1))]
 refine st 6 a1 (nx (si (so ?_)))
 let a2 : St := a1.p [(11, (vB (decide ((IntKind.wrap .i64 (p1 - (ln p0.text))) < 0)))), (10, (vI (IntKind.wrap .i64 (p1 - (ln p0.text)))))]
 refine st 2 a2 (nx ?_)
 refine cd h (fun h => ?_) fun h => ?_
 refine so ?_
 let a3 : St := a2.p [(4, (vI (-1)))]
 refine st 1 a3 (nx (ri (tr ?_)))
 injection h with h; subst h
 exact r1 (v := (vI (-1)))
 refine ki (xi (so ?_))
 let a4 : St := a2.p [(4, (vI (IntKind.wrap .i64 (p1 - (ln p0.text))))), (12, (vI (IntKind.wrap .i64 (p1 - (ln p0.text)))))]
 refine st 2 a4 (nx (ri ?_))
 injection h with h; subst h
 exact r1 (v := (vI (IntKind.wrap .i64 (p1 - (ln p0.text)))))
theorem OKs_wSzSource : (∀ (p0 : GSource) (p1 : Int) (r : Int), wSzSource p0 p1 = some r → ACalls Tryz.prog 76 [(vGSource p0), (vI p1)] [] fun x _ => x = (fun y => (vI y)) r) ∧ (∀ (p0 : (List GExpr)) (p1 : Int) (r : Int), wSzExprS p0 p1 = some r → ACalls Tryz.prog 12 [(.d (.sl 10 (p0.map cGExpr))), (vI p1)] [] fun x _ => x = (fun y => (vI y)) r) ∧ (∀ (p0 : (List GExpr)) (x1 : Int) (x5 : Int) (r : Int), wSzExprS_L0 p0 x1 x5 = some r → avc Tryz.prog acwSzExprS_L0 (qwSzExprS_1 r) (stwSzExprS_L0 p0 x1 x5)) ∧ (∀ (p0 : GExpr) (p1 : Int) (r : Int), wSzExpr p0 p1 = some r → ACalls Tryz.prog 39 [(vGExpr p0), (vI p1)] [] fun x _ => x = (fun y => (vI y)) r) ∧ (∀ (p0 : (List GQuery)) (p1 : Int) (r : Int), wSzQueryS p0 p1 = some r → ACalls Tryz.prog 79 [(.d (.sl 6 (p0.map cGQuery))), (vI p1)] [] fun x _ => x = (fun y => (vI y)) r) ∧ (∀ (p0 : (List GQuery)) (x1 : Int) (x5 : Int) (r : Int), wSzQueryS_L0 p0 x1 x5 = some r → avc Tryz.prog acwSzQueryS_L0 (qwSzQueryS_1 r) (stwSzQueryS_L0 p0 x1 x5)) ∧ (∀ (p0 : GQuery) (p1 : Int) (r : Int), wSzQuery p0 p1 = some r → ACalls Tryz.prog 9 [(vGQuery p0), (vI p1)] [] fun x _ => x = (fun y => (vI y)) r) ∧ (∀ (p0 : (List GSortKey)) (p1 : Int) (r : Int), wSzSortKeyS p0 p1 = some r → ACalls Tryz.prog 38 [(.d (.sl 11 (p0.map cGSortKey))), (vI p1)] [] fun x _ => x = (fun y => (vI y)) r) ∧ (∀ (p0 : (List GSortKey)) (x1 : Int) (x5 : Int) (r : Int), wSzSortKeyS_L0 p0 x1 x5 = some r → avc Tryz.prog acwSzSortKeyS_L0 (qwSzSortKeyS_1 r) (stwSzSortKeyS_L0 p0 x1 x5)) ∧ (∀ (p0 : GSortKey) (p1 : Int) (r : Int), wSzSortKey p0 p1 = some r → ACalls Tryz.prog 77 [(vGSortKey p0), (vI p1)] [] fun x _ => x = (fun y => (vI y)) r) ∧ (∀ (p0 : (List GSource)) (p1 : Int) (r : Int), wSzSourceS p0 p1 = some r → ACalls Tryz.prog 37 [(.d (.sl 3 (p0.map cGSource))), (vI p1)] [] fun x _ => x = (fun y => (vI y)) r) ∧ (∀ (p0 : (List GSource)) (x1 : Int) (x5 : Int) (r : Int), wSzSourceS_L0 p0 x1 x5 = some r → avc Tryz.prog acwSzSourceS_L0 (qwSzSourceS_1 r) (stwSzSourceS_L0 p0 x1 x5)) ∧ (∀ (p0 : (List GItem)) (p1 : Int) (r : Int), wSzItemS p0 p1 = some r → ACalls Tryz.prog 36 [(.d (.sl 13 (p0.map cGItem))), (vI p1)] [] fun x _ => x = (fun y => (vI y)) r) ∧ (∀ (p0 : (List GItem)) (x1 : Int) (x5 : Int) (r : Int), wSzItemS_L0 p0 x1 x5 = some r → avc Tryz.prog acwSzItemS_L0 (qwSzItemS_1 r) (stwSzItemS_L0 p0 x1 x5)) ∧ (∀ (p0 : GItem) (p1 : Int) (r : Int), wSzItem p0 p1 = some r → ACalls Tryz.prog 75 [(vGItem p0), (vI p1)] [] fun x _ => x = (fun y => (vI y)) r) := by
 refine wSzSource.mutual_partial_correctness (fun p0 p1 r => ACalls Tryz.prog 76 [(vGSource p0), (vI p1)] [] fun x _ => x = (fun y => (vI y)) r) (fun p0 p1 r => ACalls Tryz.prog 12 [(.d (.sl 10 (p0.map cGExpr))), (vI p1)] [] fun x _ => x = (fun y => (vI y)) r) (fun p0 x1 x5 r => avc Tryz.prog acwSzExprS_L0 (qwSzExprS_1 r) (stwSzExprS_L0 p0 x1 x5)) (fun p0 p1 r => ACalls Tryz.prog 39 [(vGExpr p0), (vI p1)] [] fun x _ => x = (fun y => (vI y)) r) (fun p0 p1 r => ACalls Tryz.prog 79 [(.d (.sl 6 (p0.map cGQuery))), (vI p1)] [] fun x _ => x = (fun y => (vI y)) r) (fun p0 x1 x5 r => avc Tryz.prog acwSzQueryS_L0 (qwSzQueryS_1 r) (stwSzQueryS_L0 p0 x1 x5)) (fun p0 p1 r => ACalls Tryz.prog 9 [(vGQuery p0), (vI p1)] [] fun x _ => x = (fun y => (vI y)) r) (fun p0 p1 r => ACalls Tryz.prog 38 [(.d (.sl 11 (p0.map cGSortKey))), (vI p1)] [] fun x _ => x = (fun y => (vI y)) r) (fun p0 x1 x5 r => avc Tryz.prog acwSzSortKeyS_L0 (qwSzSortKeyS_1 r) (stwSzSortKeyS_L0 p0 x1 x5)) (fun p0 p1 r => ACalls Tryz.prog 77 [(vGSortKey p0), (vI p1)] [] fun x _ => x = (fun y => (vI y)) r) (fun p0 p1 r => ACalls Tryz.prog 37 [(.d (.sl 3 (p0.map cGSource))), (vI p1)] [] fun x _ => x = (fun y => (vI y)) r) (fun p0 x1 x5 r => avc Tryz.prog acwSzSourceS_L0 (qwSzSourceS_1 r) (stwSzSourceS_L0 p0 x1 x5)) (fun p0 p1 r => ACalls Tryz.prog 36 [(.d (.sl 13 (p0.map cGItem))), (vI p1)] [] fun x _ => x = (fun y => (vI y)) r) (fun p0 x1 x5 r => avc Tryz.prog acwSzItemS_L0 (qwSzItemS_1 r) (stwSzItemS_L0 p0 x1 x5)) (fun p0 p1 r => ACalls Tryz.prog 75 [(vGItem p0), (vI p1)] [] fun x _ => x = (fun y => (vI y)) r) ?_ ?_ ?_ ?_ ?_ ?_ ?_ ?_ ?_ ?_ ?_ ?_ ?_ ?_ ?_
 · intro F_wSzExprS OK_wSzExprS p0 p1 r h
   refine aof trwSzSource ?_
   show avc Tryz.prog acwSzSource (qwSzSource _) ⟨[(0, (vGSource p0)), (1, (vI p1))], []⟩
   delta acwSzSource
   refine so ?_
   let a0 : St := ⟨[(4, (vI 0)), (2, (.ptr 2 0)), (0, (vGSource p0)), (1, (vI p1))], [(2, bGSource p0)]⟩
   refine st 2 a0 (nx (so ?_))
   let a1 : St := a0.p [(1, (vI (IntKind.wrap .i64 (p1 - (ln p0.table))))), (9, (vI (IntKind.wrap .i64 (p1 - (ln p0.table))))), (8, (vI (ln p0.table))), (7, (vS p0.table)), (6, (.ptr 2 0)), (5, (vI p1))]
   refine st 6 a1 (nx (si (so ?_)))
   let a2 : St := a1.p [(11, (vB (decide ((IntKind.wrap .i64 (p1 - (ln p0.table))) < 0)))), (10, (vI (IntKind.wrap .i64 (p1 - (ln p0.table)))))]
   refine st 2 a2 (nx ?_)
   refine cd h (fun h => ?_) fun h => ?_
   refine so ?_
   let a3 : St := a2.p [(4, (vI (-1)))]
   refine st 1 a3 (nx (ri (tr ?_)))
   injection h with h; subst h
   exact r1 (v := (vI (-1)))
   refine ki (xi (so ?_))
   let a4 : St := a2.p [(1, (vI (IntKind.wrap .i64 ((IntKind.wrap .i64 (p1 - (ln p0.table))) - (ln p0.as_))))), (16, (vI (IntKind.wrap .i64 ((IntKind.wrap .i64 (p1 - (ln p0.table))) - (ln p0.as_))))), (15, (vI (ln p0.as_))), (14, (vS p0.as_)), (13, (.ptr 2 1)), (12, (vI (IntKind.wrap .i64 (p1 - (ln p0.table)))))]
   refine st 6 a4 (nx (si (so ?_)))
   let a5 : St := a4.p [(18, (vB (decide ((IntKind.wrap .i64 ((IntKind.wrap .i64 (p1 - (ln p0.table))) - (ln p0.as_))) < 0)))), (17, (vI (IntKind.wrap .i64 ((IntKind.wrap .i64 (p1 - (ln p0.table))) - (ln p0.as_)))))]
   refine st 2 a5 (nx ?_)
   refine cd h (fun h => ?_) fun h => ?_
   refine so ?_
   let a6 : St := a5.p [(4, (vI (-1)))]
   refine st 1 a6 (nx (ri (tr ?_)))
   injection h with h; subst h
   exact r1 (v := (vI (-1)))
   refine ki (xi (so ?_))
   let a7 : St := a5.p [(21, (vI (IntKind.wrap .i64 ((IntKind.wrap .i64 (p1 - (ln p0.table))) - (ln p0.as_))))), (20, (.d (.sl 10 (p0.on_.map cGExpr)))), (19, (.ptr 2 2))]
   refine st 3 a7 (cs h (OK_wSzExprS p0.on_ (IntKind.wrap .i64 ((IntKind.wrap .i64 (p1 - (ln p0.table))) - (ln p0.as_)))) fun y1 h => ?_)
   let a8 : St := a7.p [(1, (vI y1)), (22, (vI y1))]
   refine st 1 a8 (nx (si (so ?_)))
   let a9 : St := a8.p [(24, (vB (decide (y1 < 0)))), (23, (vI y1))]
   refine st 2 a9 (nx ?_)
   refine cd h (fun h => ?_) fun h => ?_
   refine so ?_
   let a10 : St := a9.p [(4, (vI (-1)))]
   refine st 1 a10 (nx (ri (tr ?_)))
   injection h with h; subst h
   exact r1 (v := (vI (-1)))
   refine ki (xi (so ?_))
   let a11 : St := a9.p [(4, (vI y1)), (25, (vI y1))]
   refine st 2 a11 (nx (ri ?_))
   injection h with h; subst h
   exact r1 (v := (vI y1))
 · intro F_wSzExprS_L0 OK_wSzExprS_L0 p0 p1 r h
   refine aof trwSzExprS ?_
   show avc Tryz.prog acwSzExprS (qwSzExprS _) ⟨[(0, (.d (.sl 10 (p0.map cGExpr)))), (1, (vI p1))], []⟩
   delta acwSzExprS
   refine so ?_
   let a0 : St := ⟨[(4, (vI 0)), (0, (.d (.sl 10 (p0.map cGExpr)))), (1, (vI p1))], []⟩
   refine st 1 a0 (nx (so ?_))
   let a1 : St := a0.p [(7, (.d (.sl 10 (p0.map cGExpr)))), (6, (vI p1))]
   refine st 2 a1 (ps (vI (ln p0)) (vln (sz := 10) (l := p0) (f := cGExpr)) ?_)
   let a2 : St := a1.p [(1, (vI (IntKind.wrap .i64 (p1 - (ln p0))))), (9, (vI (IntKind.wrap .i64 (p1 - (ln p0))))), (8, (vI (ln p0)))]
   refine st 2 a2 (nx (si (so ?_)))
   let a3 : St := a2.p [(11, (vB (decide ((IntKind.wrap .i64 (p1 - (ln p0))) < 0)))), (10, (vI (IntKind.wrap .i64 (p1 - (ln p0)))))]
   refine st 2 a3 (nx ?_)
   refine cd h (fun h => ?_) fun h => ?_
   refine so ?_
   let a4 : St := a3.p [(4, (vI (-1)))]
   refine st 1 a4 (nx (ri (tr ?_)))
   injection h with h; subst h
   exact r1 (v := (vI (-1)))
   refine ki (xi (si (so ?_)))
   let a5 : St := a3.p [(5, (vI 0))]
   exact st 1 a5 (nx (bi (loop_go (s' := stwSzExprS_L0 p0 (IntKind.wrap .i64 (p1 - (ln p0))) 0) (wr [] (es (es (es er_nil))) br_nil) (OK_wSzExprS_L0 p0 (IntKind.wrap .i64 (p1 - (ln p0))) 0 _ h))))
 · intro F_wSzExprS_L0 F_wSzExpr OK_wSzExprS_L0 OK_wSzExpr p0 x1 x5 r h
   delta acwSzExprS_L0
   refine loop_unroll (si (so ?_))
   let a6 : St := (stwSzExprS_L0 p0 x1 x5).p [(13, (.d (.sl 10 (p0.map cGExpr)))), (12, (vI x5))]
   refine st 2 a6 (ps (vI (ln p0)) (vln (sz := 10) (l := p0) (f := cGExpr)) ?_)
   let a7 : St := a6.p [(15, (vB (decide (x5 < (ln p0))))), (14, (vI (ln p0)))]
   refine st 1 a7 (nx ?_)
   refine cd h (fun h => ?_) fun h => ?_
   refine ki (xi (si (bi (so ?_))))
   let a8 : St := a7.p [(19, (vI x5)), (18, (.d (.sl 10 (p0.map cGExpr))))]
   refine st 2 a8 (vs (fun (y : GExpr) => (.rp (oGExpr y))) h (fun y hy => via (l := p0) (f := cGExpr) (g := oGExpr) (k := .i64) hy cGExpr_eq) fun y1 h => ?_)
   let a9 : St := a8.p [(22, (vI x1)), (21, (vGExpr y1)), (20, (.rp (oGExpr y1)))]
   refine st 2 a9 (cs h (OK_wSzExpr y1 x1) fun y2 h => ?_)
   let a10 : St := a9.p [(1, (vI y2)), (23, (vI y2))]
   refine st 1 a10 (nx (so ?_))
   let a11 : St := a10.p [(25, (vB (decide (y2 < 0)))), (24, (vI y2))]
   refine st 2 a11 (nx ?_)
   refine cd h (fun h => ?_) fun h => ?_
   refine so ?_
   let a12 : St := a11.p [(4, (vI (-1)))]
   refine st 1 a12 (nx (ri (br (tr (tr (br (tr ?_)))))))
   injection h with h; subst h
   exact r1 (v := (vI (-1)))
   refine ki (bn (xi (oi ?_)))
   let a13 : St := a11.p [(5, (vI (IntKind.wrap .i64 (x5 + 1)))), (17, (vI (IntKind.wrap .i64 (x5 + 1)))), (16, (vI x5))]
   exact st 3 a13 (ni (loop_back (s' := stwSzExprS_L0 p0 y2 (IntKind.wrap .i64 (x5 + 1))) (wr [] (es (es (es er_nil))) br_nil) (OK_wSzExprS_L0 p0 y2 (IntKind.wrap .i64 (x5 + 1)) _ h)))
   refine ei (te (te (bh (xi (so ?_)))))
   let a14 : St := a7.p [(4, (vI x1)), (26, (vI x1))]
   refine st 2 a14 (nx (ri ?_))
   injection h with h; subst h
   exact r1 (v := (vI x1))
 · intro F_wSzExprS F_wSzQueryS OK_wSzExprS OK_wSzQueryS p0 p1 r h
   refine aof trwSzExpr ?_
   show avc Tryz.prog acwSzExpr (qwSzExpr _) ⟨[(0, (vGExpr p0)), (1, (vI p1))], []⟩
   delta acwSzExpr
   refine so ?_
   let a0 : St := ⟨[(4, (vI 0)), (2, (.ptr 2 0)), (0, (vGExpr p0)), (1, (vI p1))], [(2, bGExpr p0)]⟩
   refine st 2 a0 (nx (so ?_))
   let a1 : St := a0.p [(7, (vI p1)), (6, (vGValue p0.value)), (5, (.ptr 2 3))]
   refine st 3 a1 (cs h (OK_wSzValue p0.value p1) fun y1 h => ?_)
   let a2 : St := a1.p [(1, (vI y1)), (8, (vI y1))]
   refine st 1 a2 (nx (si (so ?_)))
   let a3 : St := a2.p [(10, (vB (decide (y1 < 0)))), (9, (vI y1))]
   refine st 2 a3 (nx ?_)
   refine cd h (fun h => ?_) fun h => ?_
   refine so ?_
   let a4 : St := a3.p [(4, (vI (-1)))]
   refine st 1 a4 (nx (ri (tr ?_)))
   injection h with h; subst h
   exact r1 (v := (vI (-1)))
   refine ki (xi (so ?_))
   let a5 : St := a3.p [(1, (vI (IntKind.wrap .i64 (y1 - (ln p0.qual))))), (15, (vI (IntKind.wrap .i64 (y1 - (ln p0.qual))))), (14, (vI (ln p0.qual))), (13, (vS p0.qual)), (12, (.ptr 2 6)), (11, (vI y1))]
   refine st 6 a5 (nx (si (so ?_)))
   let a6 : St := a5.p [(17, (vB (decide ((IntKind.wrap .i64 (y1 - (ln p0.qual))) < 0)))), (16, (vI (IntKind.wrap .i64 (y1 - (ln p0.qual)))))]
   refine st 2 a6 (nx ?_)
   refine cd h (fun h => ?_) fun h => ?_
   refine so ?_
   let a7 : St := a6.p [(4, (vI (-1)))]
   refine st 1 a7 (nx (ri (tr ?_)))
   injection h with h; subst h
   exact r1 (v := (vI (-1)))
   refine ki (xi (so ?_))
   let a8 : St := a6.p [(1, (vI (IntKind.wrap .i64 ((IntKind.wrap .i64 (y1 - (ln p0.qual))) - (ln p0.name))))), (22, (vI (IntKind.wrap .i64 ((IntKind.wrap .i64 (y1 - (ln p0.qual))) - (ln p0.name))))), (21, (vI (ln p0.name))), (20, (vS p0.name)), (19, (.ptr 2 7)), (18, (vI (IntKind.wrap .i64 (y1 - (ln p0.qual)))))]
   refine st 6 a8 (nx (si (so ?_)))
   let a9 : St := a8.p [(24, (vB (decide ((IntKind.wrap .i64 ((IntKind.wrap .i64 (y1 - (ln p0.qual))) - (ln p0.name))) < 0)))), (23, (vI (IntKind.wrap .i64 ((IntKind.wrap .i64 (y1 - (ln p0.qual))) - (ln p0.name)))))]
   refine st 2 a9 (nx ?_)
   refine cd h (fun h => ?_) fun h => ?_
   refine so ?_
   let a10 : St := a9.p [(4, (vI (-1)))]
   refine st 1 a10 (nx (ri (tr ?_)))
   injection h with h; subst h
   exact r1 (v := (vI (-1)))
   refine ki (xi (so ?_))
   let a11 : St := a9.p [(27, (vI (IntKind.wrap .i64 ((IntKind.wrap .i64 (y1 - (ln p0.qual))) - (ln p0.name))))), (26, (.d (.sl 10 (p0.kids.map cGExpr)))), (25, (.ptr 2 8))]
   refine st 3 a11 (cs h (OK_wSzExprS p0.kids (IntKind.wrap .i64 ((IntKind.wrap .i64 (y1 - (ln p0.qual))) - (ln p0.name)))) fun y2 h => ?_)
   let a12 : St := a11.p [(1, (vI y2)), (28, (vI y2))]
   refine st 1 a12 (nx (si (so ?_)))
   let a13 : St := a12.p [(30, (vB (decide (y2 < 0)))), (29, (vI y2))]
   refine st 2 a13 (nx ?_)
   refine cd h (fun h => ?_) fun h => ?_
   refine so ?_
   let a14 : St := a13.p [(4, (vI (-1)))]
   refine st 1 a14 (nx (ri (tr ?_)))
   injection h with h; subst h
   exact r1 (v := (vI (-1)))
   refine ki (xi (so ?_))
   let a15 : St := a13.p [(33, (vI y2)), (32, (.d (.sl 6 (p0.sub.map cGQuery)))), (31, (.ptr 2 9))]
   refine st 3 a15 (cs h (OK_wSzQueryS p0.sub y2) fun y3 h => ?_)
   let a16 : St := a15.p [(1, (vI y3)), (34, (vI y3))]
   refine st 1 a16 (nx (si (so ?_)))
   let a17 : St := a16.p [(36, (vB (decide (y3 < 0)))), (35, (vI y3))]
   refine st 2 a17 (nx ?_)
   refine cd h (fun h => ?_) fun h => ?_
   refine so ?_
   let a18 : St := a17.p [(4, (vI (-1)))]
   refine st 1 a18 (nx (ri (tr ?_)))
   injection h with h; subst h
   exact r1 (v := (vI (-1)))
   refine ki (xi (so ?_))
   let a19 : St := a17.p [(4, (vI y3)), (37, (vI y3))]
   refine st 2 a19 (nx (ri ?_))
   injection h with h; subst h
   exact r1 (v := (vI y3))
 · intro F_wSzQueryS_L0 OK_wSzQueryS_L0 p0 p1 r h
   refine aof trwSzQueryS ?_
   show avc Tryz.prog acwSzQueryS (qwSzQueryS _) ⟨[(0, (.d (.sl 6 (p0.map cGQuery)))), (1, (vI p1))], []⟩
   delta acwSzQueryS
   refine so ?_
   let a0 : St := ⟨[(4, (vI 0)), (0, (.d (.sl 6 (p0.map cGQuery)))), (1, (vI p1))], []⟩
   refine st 1 a0 (nx (so ?_))
   let a1 : St := a0.p [(7, (.d (.sl 6 (p0.map cGQuery)))), (6, (vI p1))]
   refine st 2 a1 (ps (vI (ln p0)) (vln (sz := 6) (l := p0) (f := cGQuery)) ?_)
   let a2 : St := a1.p [(1, (vI (IntKind.wrap .i64 (p1 - (ln p0))))), (9, (vI (IntKind.wrap .i64 (p1 - (ln p0))))), (8, (vI (ln p0)))]
   refine st 2 a2 (nx (si (so ?_)))
   let a3 : St := a2.p [(11, (vB (decide ((IntKind.wrap .i64 (p1 - (ln p0))) < 0)))), (10, (vI (IntKind.wrap .i64 (p1 - (ln p0)))))]
   refine st 2 a3 (nx ?_)
   refine cd h (fun h => ?_) fun h => ?_
   refine so ?_
   let a4 : St := a3.p [(4, (vI (-1)))]
   refine st 1 a4 (nx (ri (tr ?_)))
   injection h with h; subst h
   exact r1 (v := (vI (-1)))
   refine ki (xi (si (so ?_)))
   let a5 : St := a3.p [(5, (vI 0))]
   exact st 1 a5 (nx (bi (loop_go (s' := stwSzQueryS_L0 p0 (IntKind.wrap .i64 (p1 - (ln p0))) 0) (wr [] (es (es (es er_nil))) br_nil) (OK_wSzQueryS_L0 p0 (IntKind.wrap .i64 (p1 - (ln p0))) 0 _ h))))
 · intro F_wSzQueryS_L0 F_wSzQuery OK_wSzQueryS_L0 OK_wSzQuery p0 x1 x5 r h
   delta acwSzQueryS_L0
   refine loop_unroll (si (so ?_))
   let a6 : St := (stwSzQueryS_L0 p0 x1 x5).p [(13, (.d (.sl 6 (p0.map cGQuery)))), (12, (vI x5))]
   refine st 2 a6 (ps (vI (ln p0)) (vln (sz := 6) (l := p0) (f := cGQuery)) ?_)
   let a7 : St := a6.p [(15, (vB (decide (x5 < (ln p0))))), (14, (vI (ln p0)))]
   refine st 1 a7 (nx ?_)
   refine cd h (fun h => ?_) fun h => ?_
   refine ki (xi (si (bi (so ?_))))
   let a8 : St := a7.p [(19, (vI x5)), (18, (.d (.sl 6 (p0.map cGQuery))))]
   refine st 2 a8 (vs (fun (y : GQuery) => (.rp (oGQuery y))) h (fun y hy => via (l := p0) (f := cGQuery) (g := oGQuery) (k := .i64) hy cGQuery_eq) fun y1 h => ?_)
   let a9 : St := a8.p [(22, (vI x1)), (21, (vGQuery y1)), (20, (.rp (oGQuery y1)))]
   refine st 2 a9 (cs h (OK_wSzQuery y1 x1) fun y2 h => ?_)
   let a10 : St := a9.p [(1, (vI y2)), (23, (vI y2))]
   refine st 1 a10 (nx (so ?_))
   let a11 : St := a10.p [(25, (vB (decide (y2 < 0)))), (24, (vI y2))]
   refine st 2 a11 (nx ?_)
   refine cd h (fun h => ?_) fun h => ?_
   refine so ?_
   let a12 : St := a11.p [(4, (vI (-1)))]
   refine st 1 a12 (nx (ri (br (tr (tr (br (tr ?_)))))))
   injection h with h; subst h
   exact r1 (v := (vI (-1)))
   refine ki (bn (xi (oi ?_)))
   let a13 : St := a11.p [(5, (vI (IntKind.wrap .i64 (x5 + 1)))), (17, (vI (IntKind.wrap .i64 (x5 + 1)))), (16, (vI x5))]
   exact st 3 a13 (ni (loop_back (s' := stwSzQueryS_L0 p0 y2 (IntKind.wrap .i64 (x5 + 1))) (wr [] (es (es (es er_nil))) br_nil) (OK_wSzQueryS_L0 p0 y2 (IntKind.wrap .i64 (x5 + 1)) _ h)))
   refine ei (te (te (bh (xi (so ?_)))))
   let a14 : St := a7.p [(4, (vI x1)), (26, (vI x1))]
   refine st 2 a14 (nx (ri ?_))
   injection h with h; subst h
   exact r1 (v := (vI x1))
 · intro F_wSzExprS F_wSzSortKeyS F_wSzSourceS F_wSzItemS OK_wSzExprS OK_wSzSortKeyS OK_wSzSourceS OK_wSzItemS p0 p1 r h
   refine aof trwSzQuery ?_
   show avc Tryz.prog acwSzQuery (qwSzQuery _) ⟨[(0, (vGQuery p0)), (1, (vI p1))], []⟩
   delta acwSzQuery
   refine so ?_
   let a0 : St := ⟨[(4, (vI 0)), (2, (.ptr 2 0)), (0, (vGQuery p0)), (1, (vI p1))], [(2, bGQuery p0)]⟩
   refine st 2 a0 (nx (so ?_))
   let a1 : St := a0.p [(7, (vI p1)), (6, (.d (.sl 13 (p0.items.map cGItem)))), (5, (.ptr 2 1))]
   refine st 3 a1 (cs h (OK_wSzItemS p0.items p1) fun y1 h => ?_)
   let a2 : St := a1.p [(1, (vI y1)), (8, (vI y1))]
   refine st 1 a2 (nx (si (so ?_)))
   let a3 : St := a2.p [(10, (vB (decide (y1 < 0)))), (9, (vI y1))]
   refine st 2 a3 (nx ?_)
   refine cd h (fun h => ?_) fun h => ?_
   refine so ?_
   let a4 : St := a3.p [(4, (vI (-1)))]
   refine st 1 a4 (nx (ri (tr ?_)))
   injection h with h; subst h
   exact r1 (v := (vI (-1)))
   refine ki (xi (so ?_))
   let a5 : St := a3.p [(13, (vI y1)), (12, (.d (.sl 3 (p0.from_.map cGSource)))), (11, (.ptr 2 2))]
   refine st 3 a5 (cs h (OK_wSzSourceS p0.from_ y1) fun y2 h => ?_)
   let a6 : St := a5.p [(1, (vI y2)), (14, (vI y2))]
   refine st 1 a6 (nx (si (so ?_)))
   let a7 : St := a6.p [(16, (vB (decide (y2 < 0)))), (15, (vI y2))]
   refine st 2 a7 (nx ?_)
   refine cd h (fun h => ?_) fun h => ?_
   refine so ?_
   let a8 : St := a7.p [(4, (vI (-1)))]
   refine st 1 a8 (nx (ri (tr ?_)))
   injection h with h; subst h
   exact r1 (v := (vI (-1)))
   refine ki (xi (so ?_))
   let a9 : St := a7.p [(19, (vI y2)), (18, (.d (.sl 10 (p0.where_.map cGExpr)))), (17, (.ptr 2 3))]
   refine st 3 a9 (cs h (OK_wSzExprS p0.where_ y2) fun y3 h => ?_)
   let a10 : St := a9.p [(1, (vI y3)), (20, (vI y3))]
   refine st 1 a10 (nx (si (so ?_)))
   let a11 : St := a10.p [(22, (vB (decide (y3 < 0)))), (21, (vI y3))]
   refine st 2 a11 (nx ?_)
   refine cd h (fun h => ?_) fun h => ?_
   refine so ?_
   let a12 : St := a11.p [(4, (vI (-1)))]
   refine st 1 a12 (nx (ri (tr ?_)))
   injection h with h; subst h
   exact r1 (v := (vI (-1)))
   refine ki (xi (so ?_))
   let a13 : St := a11.p [(25, (vI y3)), (24, (.d (.sl 11 (p0.order.map cGSortKey)))), (23, (.ptr 2 4))]
   refine st 3 a13 (cs h (OK_wSzSortKeyS p0.order y3) fun y4 h => ?_)
   let a14 : St := a13.p [(1, (vI y4)), (26, (vI y4))]
   refine st 1 a14 (nx (si (so ?_)))
   let a15 : St := a14.p [(28, (vB (decide (y4 < 0)))), (27, (vI y4))]
   refine st 2 a15 (nx ?_)
   refine cd h (fun h => ?_) fun h => ?_
   refine so ?_
   let a16 : St := a15.p [(4, (vI (-1)))]
   refine st 1 a16 (nx (ri (tr ?_)))
   injection h with h; subst h
   exact r1 (v := (vI (-1)))
   refine ki (xi (so ?_))
   let a17 : St := a15.p [(4, (vI y4)), (29, (vI y4))]
   refine st 2 a17 (nx (ri ?_))
   injection h with h; subst h
   exact r1 (v := (vI y4))
 · intro F_wSzSortKeyS_L0 OK_wSzSortKeyS_L0 p0 p1 r h
   refine aof trwSzSortKeyS ?_
   show avc Tryz.prog acwSzSortKeyS (qwSzSortKeyS _) ⟨[(0, (.d (.sl 11 (p0.map cGSortKey)))), (1, (vI p1))], []⟩
   delta acwSzSortKeyS
   refine so ?_
   let a0 : St := ⟨[(4, (vI 0)), (0, (.d (.sl 11 (p0.map cGSortKey)))), (1, (vI p1))], []⟩
   refine st 1 a0 (nx (so ?_))
   let a1 : St := a0.p [(7, (.d (.sl 11 (p0.map cGSortKey)))), (6, (vI p1))]
   refine st 2 a1 (ps (vI (ln p0)) (vln (sz := 11) (l := p0) (f := cGSortKey)) ?_)
   let a2 : St := a1.p [(1, (vI (IntKind.wrap .i64 (p1 - (ln p0))))), (9, (vI (IntKind.wrap .i64 (p1 - (ln p0))))), (8, (vI (ln p0)))]
   refine st 2 a2 (nx (si (so ?_)))
   let a3 : St := a2.p [(11, (vB (decide ((IntKind.wrap .i64 (p1 - (ln p0))) < 0)))), (10, (vI (IntKind.wrap .i64 (p1 - (ln p0)))))]
   refine st 2 a3 (nx ?_)
   refine cd h (fun h => ?_) fun h => ?_
   refine so ?_
   let a4 : St := a3.p [(4, (vI (-1)))]
   refine st 1 a4 (nx (ri (tr ?_)))
   injection h with h; subst h
   exact r1 (v := (vI (-1)))
   refine ki (xi (si (so ?_)))
   let a5 : St := a3.p [(5, (vI 0))]
   exact st 1 a5 (nx (bi (loop_go (s' := stwSzSortKeyS_L0 p0 (IntKind.wrap .i64 (p1 - (ln p0))) 0) (wr [] (es (es (es er_nil))) br_nil) (OK_wSzSortKeyS_L0 p0 (IntKind.wrap .i64 (p1 - (ln p0))) 0 _ h))))
 · intro F_wSzSortKeyS_L0 F_wSzSortKey OK_wSzSortKeyS_L0 OK_wSzSortKey p0 x1 x5 r h
   delta acwSzSortKeyS_L0
   refine loop_unroll (si (so ?_))
   let a6 : St := (stwSzSortKeyS_L0 p0 x1 x5).p [(13, (.d (.sl 11 (p0.map cGSortKey)))), (12, (vI x5))]
   refine st 2 a6 (ps (vI (ln p0)) (vln (sz := 11) (l := p0) (f := cGSortKey)) ?_)
   let a7 : St := a6.p [(15, (vB (decide (x5 < (ln p0))))), (14, (vI (ln p0)))]
   refine st 1 a7 (nx ?_)
   refine cd h (fun h => ?_) fun h => ?_
   refine ki (xi (si (bi (so ?_))))
   let a8 : St := a7.p [(19, (vI x5)), (18, (.d (.sl 11 (p0.map cGSortKey))))]
   refine st 2 a8 (vs (fun (y : GSortKey) => (.rp (oGSortKey y))) h (fun y hy => via (l := p0) (f := cGSortKey) (g := oGSortKey) (k := .i64) hy cGSortKey_eq) fun y1 h => ?_)
   let a9 : St := a8.p [(22, (vI x1)), (21, (vGSortKey y1)), (20, (.rp (oGSortKey y1)))]
   refine st 2 a9 (cs h (OK_wSzSortKey y1 x1) fun y2 h => ?_)
   let a10 : St := a9.p [(1, (vI y2)), (23, (vI y2))]
   refine st 1 a10 (nx (so ?_))
   let a11 : St := a10.p [(25, (vB (decide (y2 < 0)))), (24, (vI y2))]
   refine st 2 a11 (nx ?_)
   refine cd h (fun h => ?_) fun h => ?_
   refine so ?_
   let a12 : St := a11.p [(4, (vI (-1)))]
   refine st 1 a12 (nx (ri (br (tr (tr (br (tr ?_)))))))
   injection h with h; subst h
   exact r1 (v := (vI (-1)))
   refine ki (bn (xi (oi ?_)))
   let a13 : St := a11.p [(5, (vI (IntKind.wrap .i64 (x5 + 1)))), (17, (vI (IntKind.wrap .i64 (x5 + 1)))), (16, (vI x5))]
   exact st 3 a13 (ni (loop_back (s' := stwSzSortKeyS_L0 p0 y2 (IntKind.wrap .i64 (x5 + 1))) (wr [] (es (es (es er_nil))) br_nil) (OK_wSzSortKeyS_L0 p0 y2 (IntKind.wrap .i64 (x5 + 1)) _ h)))
   refine ei (te (te (bh (xi (so ?_)))))
   let a14 : St := a7.p [(4, (vI x1)), (26, (vI x1))]
   refine st 2 a14 (nx (ri ?_))
   injection h with h; subst h
   exact r1 (v := (vI x1))
 · intro F_wSzExpr OK_wSzExpr p0 p1 r h
   refine aof trwSzSortKey ?_
   show avc Tryz.prog acwSzSortKey (qwSzSortKey _) ⟨[(0, (vGSortKey p0)), (1, (vI p1))], []⟩
   delta acwSzSortKey
   refine so ?_
   let a0 : St := ⟨[(4, (vI 0)), (2, (.ptr 2 0)), (0, (vGSortKey p0)), (1, (vI p1))], [(2, bGSortKey p0)]⟩
   refine st 2 a0 (nx (so ?_))
   let a1 : St := a0.p [(7, (vI p1)), (6, (vGExpr p0.expr)), (5, (.ptr 2 0))]
   refine st 3 a1 (cs h (OK_wSzExpr p0.expr p1) fun y1 h => ?_)
   let a2 : St := a1.p [(1, (vI y1)), (8, (vI y1))]
   refine st 1 a2 (nx (si (so ?_)))
   let a3 : St := a2.p [(10, (vB (decide (y1 < 0)))), (9, (vI y1))]
   refine st 2 a3 (nx ?_)
   refine cd h (fun h => ?_) fun h => ?_
   refine so ?_
   let a4 : St := a3.p [(4, (vI (-1)))]
   refine st 1 a4 (nx (ri (tr ?_)))
   injection h with h; subst h
   exact r1 (v := (vI (-1)))
   refine ki (xi (so ?_))
   let a5 : St := a3.p [(4, (vI y1)), (11, (vI y1))]
   refine st 2 a5 (nx (ri ?_))
   injection h with h; subst h
   exact r1 (v := (vI y1))
 · intro F_wSzSourceS_L0 OK_wSzSourceS_L0 p0 p1 r h
   refine aof trwSzSourceS ?_
   show avc Tryz.prog acwSzSourceS (qwSzSourceS _) ⟨[(0, (.d (.sl 3 (p0.map cGSource)))), (1, (vI p1))], []⟩
   delta acwSzSourceS
   refine so ?_
   let a0 : St := ⟨[(4, (vI 0)), (0, (.d (.sl 3 (p0.map cGSource)))), (1, (vI p1))], []⟩
   refine st 1 a0 (nx (so ?_))
   let a1 : St := a0.p [(7, (.d (.sl 3 (p0.map cGSource)))), (6, (vI p1))]
   refine st 2 a1 (ps (vI (ln p0)) (vln (sz := 3) (l := p0) (f := cGSource)) ?_)
   let a2 : St := a1.p [(1, (vI (IntKind.wrap .i64 (p1 - (ln p0))))), (9, (vI (IntKind.wrap .i64 (p1 - (ln p0))))), (8, (vI (ln p0)))]
   refine st 2 a2 (nx (si (so ?_)))
   let a3 : St := a2.p [(11, (vB (decide ((IntKind.wrap .i64 (p1 - (ln p0))) < 0)))), (10, (vI (IntKind.wrap .i64 (p1 - (ln p0)))))]
   refine st 2 a3 (nx ?_)
   refine cd h (fun h => ?_) fun h => ?_
   refine so ?_
   let a4 : St := a3.p [(4, (vI (-1)))]
   refine st 1 a4 (nx (ri (tr ?_)))
   injection h with h; subst h
   exact r1 (v := (vI (-1)))
   refine ki (xi (si (so ?_)))
   let a5 : St := a3.p [(5, (vI 0))]
   exact st 1 a5 (nx (bi (loop_go (s' := stwSzSourceS_L0 p0 (IntKind.wrap .i64 (p1 - (ln p0))) 0) (wr [] (es (es (es er_nil))) br_nil) (OK_wSzSourceS_L0 p0 (IntKind.wrap .i64 (p1 - (ln p0))) 0 _ h))))
 · intro F_wSzSource F_wSzSourceS_L0 OK_wSzSource OK_wSzSourceS_L0 p0 x1 x5 r h
   delta acwSzSourceS_L0
   refine loop_unroll (si (so ?_))
   let a6 : St := (stwSzSourceS_L0 p0 x1 x5).p [(13, (.d (.sl 3 (p0.map cGSource)))), (12, (vI x5))]
   refine st 2 a6 (ps (vI (ln p0)) (vln (sz := 3) (l := p0) (f := cGSource)) ?_)
   let a7 : St := a6.p [(15, (vB (decide (x5 < (ln p0))))), (14, (vI (ln p0)))]
   refine st 1 a7 (nx ?_)
   refine cd h (fun h => ?_) fun h => ?_
   refine ki (xi (si (bi (so ?_))))
   let a8 : St := a7.p [(19, (vI x5)), (18, (.d (.sl 3 (p0.map cGSource))))]
   refine st 2 a8 (vs (fun (y : GSource) => (.rp (oGSource y))) h (fun y hy => via (l := p0) (f := cGSource) (g := oGSource) (k := .i64) hy cGSource_eq) fun y1 h => ?_)
   let a9 : St := a8.p [(22, (vI x1)), (21, (vGSource y1)), (20, (.rp (oGSource y1)))]
   refine st 2 a9 (cs h (OK_wSzSource y1 x1) fun y2 h => ?_)
   let a10 : St := a9.p [(1, (vI y2)), (23, (vI y2))]
   refine st 1 a10 (nx (so ?_))
   let a11 : St := a10.p [(25, (vB (decide (y2 < 0)))), (24, (vI y2))]
   refine st 2 a11 (nx ?_)
   refine cd h (fun h => ?_) fun h => ?_
   refine so ?_
   let a12 : St := a11.p [(4, (vI (-1)))]
   refine st 1 a12 (nx (ri (br (tr (tr (br (tr ?_)))))))
   injection h with h; subst h
   exact r1 (v := (vI (-1)))
   refine ki (bn (xi (oi ?_)))
   let a13 : St := a11.p [(5, (vI (IntKind.wrap .i64 (x5 + 1)))), (17, (vI (IntKind.wrap .i64 (x5 + 1)))), (16, (vI x5))]
   exact st 3 a13 (ni (loop_back (s' := stwSzSourceS_L0 p0 y2 (IntKind.wrap .i64 (x5 + 1))) (wr [] (es (es (es er_nil))) br_nil) (OK_wSzSourceS_L0 p0 y2 (IntKind.wrap .i64 (x5 + 1)) _ h)))
   refine ei (te (te (bh (xi (so ?_)))))
   let a14 : St := a7.p [(4, (vI x1)), (26, (vI x1))]
   refine st 2 a14 (nx (ri ?_))
   injection h with h; subst h
   exact r1 (v := (vI x1))
 · intro F_wSzItemS_L0 OK_wSzItemS_L0 p0 p1 r h
   refine aof trwSzItemS ?_
   show avc Tryz.prog acwSzItemS (qwSzItemS _) ⟨[(0, (.d (.sl 13 (p0.map cGItem)))), (1, (vI p1))], []⟩
   delta acwSzItemS
   refine so ?_
   let a0 : St := ⟨[(4, (vI 0)), (0, (.d (.sl 13 (p0.map cGItem)))), (1, (vI p1))], []⟩
   refine st 1 a0 (nx (so ?_))
   let a1 : St := a0.p [(7, (.d (.sl 13 (p0.map cGItem)))), (6, (vI p1))]
   refine st 2 a1 (ps (vI (ln p0)) (vln (sz := 13) (l := p0) (f := cGItem)) ?_)
   let a2 : St := a1.p [(1, (vI (IntKind.wrap .i64 (p1 - (ln p0))))), (9, (vI (IntKind.wrap .i64 (p1 - (ln p0))))), (8, (vI (ln p0)))]
   refine st 2 a2 (nx (si (so ?_)))
   let a3 : St := a2.p [(11, (vB (decide ((IntKind.wrap .i64 (p1 - (ln p0))) < 0)))), (10, (vI (IntKind.wrap .i64 (p1 - (ln p0)))))]
   refine st 2 a3 (nx ?_)
   refine cd h (fun h => ?_) fun h => ?_
   refine so ?_
   let a4 : St := a3.p [(4, (vI (-1)))]
   refine st 1 a4 (nx (ri (tr ?_)))
   injection h with h; subst h
   exact r1 (v := (vI (-1)))
   refine ki (xi (si (so ?_)))
   let a5 : St := a3.p [(5, (vI 0))]
   exact st 1 a5 (nx (bi (loop_go (s' := stwSzItemS_L0 p0 (IntKind.wrap .i64 (p1 - (ln p0))) 0) (wr [] (es (es (es er_nil))) br_nil) (OK_wSzItemS_L0 p0 (IntKind.wrap .i64 (p1 - (ln p0))) 0 _ h))))
 · intro F_wSzItemS_L0 F_wSzItem OK_wSzItemS_L0 OK_wSzItem p0 x1 x5 r h
   delta acwSzItemS_L0
   refine loop_unroll (si (so ?_))
   let a6 : St := (stwSzItemS_L0 p0 x1 x5).p [(13, (.d (.sl 13 (p0.map cGItem)))), (12, (vI x5))]
   refine st 2 a6 (ps (vI (ln p0)) (vln (sz := 13) (l := p0) (f := cGItem)) ?_)
   let a7 : St := a6.p [(15, (vB (decide (x5 < (ln p0))))), (14, (vI (ln p0)))]
   refine st 1 a7 (nx ?_)
   refine cd h (fun h => ?_) fun h => ?_
   refine ki (xi (si (bi (so ?_))))
   let a8 : St := a7.p [(19, (vI x5)), (18, (.d (.sl 13 (p0.map cGItem))))]
   refine st 2 a8 (vs (fun (y : GItem) => (.rp (oGItem y))) h (fun y hy => via (l := p0) (f := cGItem) (g := oGItem) (k := .i64) hy cGItem_eq) fun y1 h => ?_)
   let a9 : St := a8.p [(22, (vI x1)), (21, (vGItem y1)), (20, (.rp (oGItem y1)))]
   refine st 2 a9 (cs h (OK_wSzItem y1 x1) fun y2 h => ?_)
   let a10 : St := a9.p [(1, (vI y2)), (23, (vI y2))]
   refine st 1 a10 (nx (so ?_))
   let a11 : St := a10.p [(25, (vB (decide (y2 < 0)))), (24, (vI y2))]
   refine st 2 a11 (nx ?_)
   refine cd h (fun h => ?_) fun h => ?_
   refine so ?_
   let a12 : St := a11.p [(4, (vI (-1)))]
   refine st 1 a12 (nx (ri (br (tr (tr (br (tr ?_)))))))
   injection h with h; subst h
   exact r1 (v := (vI (-1)))
   refine ki (bn (xi (oi ?_)))
   let a13 : St := a11.p [(5, (vI (IntKind.wrap .i64 (x5 + 1)))), (17, (vI (IntKind.wrap .i64 (x5 + 1)))), (16, (vI x5))]
   exact st 3 a13 (ni (loop_back (s' := stwSzItemS_L0 p0 y2 (IntKind.wrap .i64 (x5 + 1))) (wr [] (es (es (es er_nil))) br_nil) (OK_wSzItemS_L0 p0 y2 (IntKind.wrap .i64 (x5 + 1)) _ h)))
   refine ei (te (te (bh (xi (so ?_)))))
   let a14 : St := a7.p [(4, (vI x1)), (26, (vI x1))]
   refine st 2 a14 (nx (ri ?_))
   injection h with h; subst h
   exact r1 (v := (vI x1))
 · intro F_wSzExpr OK_wSzExpr p0 p1 r h
   refine aof trwSzItem ?_
   show avc Tryz.prog acwSzItem (qwSzItem _) ⟨[(0, (vGItem p0)), (1, (vI p1))], []⟩
   delta acwSzItem
   refine so ?_
   let a0 : St := ⟨[(4, (vI 0)), (2, (.ptr 2 0)), (0, (vGItem p0)), (1, (vI p1))], [(2, bGItem p0)]⟩
   refine st 2 a0 (nx (so ?_))
   let a1 : St := a0.p [(1, (vI (IntKind.wrap .i64 (p1 - (ln p0.qual))))), (9, (vI (IntKind.wrap .i64 (p1 - (ln p0.qual))))), (8, (vI (ln p0.qual))), (7, (vS p0.qual)), (6, (.ptr 2 1)), (5, (vI p1))]
   refine st 6 a1 (nx (si (so ?_)))
   let a2 : St := a1.p [(11, (vB (decide ((IntKind.wrap .i64 (p1 - (ln p0.qual))) < 0)))), (10, (vI (IntKind.wrap .i64 (p1 - (ln p0.qual)))))]
   refine st 2 a2 (nx ?_)
   refine cd h (fun h => ?_) fun h => ?_
   refine so ?_
   let a3 : St := a2.p [(4, (vI (-1)))]
   refine st 1 a3 (nx (ri (tr ?_)))
   injection h with h; subst h
   exact r1 (v := (vI (-1)))
   refine ki (xi (so ?_))
   let a4 : St := a2.p [(14, (vI (IntKind.wrap .i64 (p1 - (ln p0.qual))))), (13, (vGExpr p0.expr)), (12, (.ptr 2 2))]
   refine st 3 a4 (cs h (OK_wSzExpr p0.expr (IntKind.wrap .i64 (p1 - (ln p0.qual)))) fun y1 h => ?_)
   let a5 : St := a4.p [(1, (vI y1)), (15, (vI y1))]
   refine st 1 a5 (nx (si (so ?_)))
   let a6 : St := a5.p [(17, (vB (decide (y1 < 0)))), (16, (vI y1))]
   refine st 2 a6 (nx ?_)
   refine cd h (fun h => ?_) fun h => ?_
   refine so ?_
   let a7 : St := a6.p [(4, (vI (-1)))]
   refine st 1 a7 (nx (ri (tr ?_)))
   injection h with h; subst h
   exact r1 (v := (vI (-1)))
   refine ki (xi (so ?_))
   let a8 : St := a6.p [(1, (vI (IntKind.wrap .i64 (y1 - (ln p0.as_))))), (22, (vI (IntKind.wrap .i64 (y1 - (ln p0.as_))))), (21, (vI (ln p0.as_))), (20, (vS p0.as_)), (19, (.ptr 2 12)), (18, (vI y1))]
   refine st 6 a8 (nx (si (so ?_)))
   let a9 : St := a8.p [(24, (vB (decide ((IntKind.wrap .i64 (y1 - (ln p0.as_))) < 0)))), (23, (vI (IntKind.wrap .i64 (y1 - (ln p0.as_)))))]
   refine st 2 a9 (nx ?_)
   refine cd h (fun h => ?_) fun h => ?_
   refine so ?_
   let a10 : St := a9.p [(4, (vI (-1)))]
   refine st 1 a10 (nx (ri (tr ?_)))
   injection h with h; subst h
   exact r1 (v := (vI (-1)))
   refine ki (xi (so ?_))
   let a11 : St := a9.p [(4, (vI (IntKind.wrap .i64 (y1 - (ln p0.as_))))), (25, (vI (IntKind.wrap .i64 (y1 - (ln p0.as_)))))]
   refine st 2 a11 (nx (ri ?_))
   injection h with h; subst h
   exact r1 (v := (vI (IntKind.wrap .i64 (y1 - (ln p0.as_)))))
theorem OK_wSzSource (p0 : GSource) (p1 : Int) : FOk Tryz.prog 76 [(vGSource p0), (vI p1)] (fun y => (vI y)) (wSzSource p0 p1) := fun r h => (OKs_wSzSource).1 p0 p1 r h
theorem OK_wSzExprS (p0 : (List GExpr)) (p1 : Int) : FOk Tryz.prog 12 [(.d (.sl 10 (p0.map cGExpr))), (vI p1)] (fun y => (vI y)) (wSzExprS p0 p1) := fun r h => (OKs_wSzSource).2.1 p0 p1 r h
theorem OK_wSzExprS_L0 (p0 : (List GExpr)) (x1 : Int) (x5 : Int) (r : Int) (h : wSzExprS_L0 p0 x1 x5 = some r) : avc Tryz.prog acwSzExprS_L0 (qwSzExprS_1 r) (stwSzExprS_L0 p0 x1 x5) := (OKs_wSzSource).2.2.1 p0 x1 x5 r h
theorem OK_wSzExpr (p0 : GExpr) (p1 : Int) : FOk Tryz.prog 39 [(vGExpr p0), (vI p1)] (fun y => (vI y)) (wSzExpr p0 p1) := fun r h => (OKs_wSzSource).2.2.2.1 p0 p1 r h
theorem OK_wSzQueryS (p0 : (List GQuery)) (p1 : Int) : FOk Tryz.prog 79 [(.d (.sl 6 (p0.map cGQuery))), (vI p1)] (fun y => (vI y)) (wSzQueryS p0 p1) := fun r h => (OKs_wSzSource).2.2.2.2.1 p0 p1 r h
theorem OK_wSzQueryS_L0 (p0 : (List GQuery)) (x1 : Int) (x5 : Int) (r : Int) (h : wSzQueryS_L0 p0 x1 x5 = some r) : avc Tryz.prog acwSzQueryS_L0 (qwSzQueryS_1 r) (stwSzQueryS_L0 p0 x1 x5) := (OKs_wSzSource).2.2.2.2.2.1 p0 x1 x5 r h
theorem OK_wSzQuery (p0 : GQuery) (p1 : Int) : FOk Tryz.prog 9 [(vGQuery p0), (vI p1)] (fun y => (vI y)) (wSzQuery p0 p1) := fun r h => (OKs_wSzSource).2.2.2.2.2.2.1 p0 p1 r h
theorem OK_wSzSortKeyS (p0 : (List GSortKey)) (p1 : Int) : FOk Tryz.prog 38 [(.d (.sl 11 (p0.map cGSortKey))), (vI p1)] (fun y => (vI y)) (wSzSortKeyS p0 p1) := fun r h => (OKs_wSzSource).2.2.2.2.2.2.2.1 p0 p1 r h
theorem OK_wSzSortKeyS_L0 (p0 : (List GSortKey)) (x1 : Int) (x5 : Int) (r : Int) (h : wSzSortKeyS_L0 p0 x1 x5 = some r) : avc Tryz.prog acwSzSortKeyS_L0 (qwSzSortKeyS_1 r) (stwSzSortKeyS_L0 p0 x1 x5) := (OKs_wSzSource).2.2.2.2.2.2.2.2.1 p0 x1 x5 r h
theorem OK_wSzSortKey (p0 : GSortKey) (p1 : Int) : FOk Tryz.prog 77 [(vGSortKey p0), (vI p1)] (fun y => (vI y)) (wSzSortKey p0 p1) := fun r h => (OKs_wSzSource).2.2.2.2.2.2.2.2.2.1 p0 p1 r h
theorem OK_wSzSourceS (p0 : (List GSource)) (p1 : Int) : FOk Tryz.prog 37 [(.d (.sl 3 (p0.map cGSource))), (vI p1)] (fun y => (vI y)) (wSzSourceS p0 p1) := fun r h => (OKs_wSzSource).2.2.2.2.2.2.2.2.2.2.1 p0 p1 r h
theorem OK_wSzSourceS_L0 (p0 : (List GSource)) (x1 : Int) (x5 : Int) (r : Int) (h : wSzSourceS_L0 p0 x1 x5 = some r) : avc Tryz.prog acwSzSourceS_L0 (qwSzSourceS_1 r) (stwSzSourceS_L0 p0 x1 x5) := (OKs_wSzSource).2.2.2.2.2.2.2.2.2.2.2.1 p0 x1 x5 r h
theorem OK_wSzItemS (p0 : (List GItem)) (p1 : Int) : FOk Tryz.prog 36 [(.d (.sl 13 (p0.map cGItem))), (vI p1)] (fun y => (vI y)) (wSzItemS p0 p1) := fun r h => (OKs_wSzSource).2.2.2.2.2.2.2.2.2.2.2.2.1 p0 p1 r h
theorem OK_wSzItemS_L0 (p0 : (List GItem)) (x1 : Int) (x5 : Int) (r : Int) (h : wSzItemS_L0 p0 x1 x5 = some r) : avc Tryz.prog acwSzItemS_L0 (qwSzItemS_1 r) (stwSzItemS_L0 p0 x1 x5) := (OKs_wSzSource).2.2.2.2.2.2.2.2.2.2.2.2.2.1 p0 x1 x5 r h
theorem OK_wSzItem (p0 : GItem) (p1 : Int) : FOk Tryz.prog 75 [(vGItem p0), (vI p1)] (fun y => (vI y)) (wSzItem p0 p1) := fun r h => (OKs_wSzSource).2.2.2.2.2.2.2.2.2.2.2.2.2.2 p0 p1 r h
theorem OKs_wSzExprSS_L0 (p0 : (List (List GExpr))) : (∀ (x1 : Int) (x5 : Int) (r : Int), wSzExprSS_L0 p0 x1 x5 = some r → avc Tryz.prog acwSzExprSS_L0 (qwSzExprSS_1 r) (stwSzExprSS_L0 p0 x1 x5)) := by
 refine wSzExprSS_L0.partial_correctness p0 (fun x1 x5 r => avc Tryz.prog acwSzExprSS_L0 (qwSzExprSS_1 r) (stwSzExprSS_L0 p0 x1 x5)) ?_
 · intro F_wSzExprSS_L0 OK_wSzExprSS_L0 x1 x5 r h
   delta acwSzExprSS_L0
   refine loop_unroll (si (so ?_))
   let a6 : St := (stwSzExprSS_L0 p0 x1 x5).p [(13, (.d (.sl 1 (p0.map (cSl 10 cGExpr))))), (12, (vI x5))]
   refine st 2 a6 (ps (vI (ln p0)) (vln (sz := 1) (l := p0) (f := (cSl 10 cGExpr))) ?_)
   let a7 : St := a6.p [(15, (vB (decide (x5 < (ln p0))))), (14, (vI (ln p0)))]
   refine st 1 a7 (nx ?_)
   refine cd h (fun h => ?_) fun h => ?_
   refine ki (xi (si (bi (so ?_))))
   let a8 : St := a7.p [(19, (vI x5)), (18, (.d (.sl 1 (p0.map (cSl 10 cGExpr)))))]
   refine st 2 a8 (vs (fun (y : (List GExpr)) => (.rp [(.sl 10 (y.map cGExpr))])) h (fun y hy => via (l := p0) (f := (cSl 10 cGExpr)) (g := (cSl 10 cGExpr)) (k := .i64) hy (fun _ => rfl)) fun y1 h => ?_)
   let a9 : St := a8.p [(22, (vI x1)), (21, (.d (.sl 10 (y1.map cGExpr)))), (20, (.rp [(.sl 10 (y1.map cGExpr))]))]
   refine st 2 a9 (cs h (OK_wSzExprS y1 x1) fun y2 h => ?_)
   let a10 : St := a9.p [(1, (vI y2)), (23, (vI y2))]
   refine st 1 a10 (nx (so ?_))
   let a11 : St := a10.p [(25, (vB (decide (y2 < 0)))), (24, (vI y2))]
   refine st 2 a11 (nx ?_)
   refine cd h (fun h => ?_) fun h => ?_
   refine so ?_
   let a12 : St := a11.p [(4, (vI (-1)))]
   refine st 1 a12 (nx (ri (br (tr (tr (br (tr ?_)))))))
   injection h with h; subst h
   exact r1 (v := (vI (-1)))
   refine ki (bn (xi (oi ?_)))
   let a13 : St := a11.p [(5, (vI (IntKind.wrap .i64 (x5 + 1)))), (17, (vI (IntKind.wrap .i64 (x5 + 1)))), (16, (vI x5))]
   exact st 3 a13 (ni (loop_back (s' := stwSzExprSS_L0 p0 y2 (IntKind.wrap .i64 (x5 + 1))) (wr [] (es (es (es er_nil))) br_nil) (OK_wSzExprSS_L0 y2 (IntKind.wrap .i64 (x5 + 1)) _ h)))
   refine ei (te (te (bh (xi (so ?_)))))
   let a14 : St := a7.p [(4, (vI x1)), (26, (vI x1))]
   refine st 2 a14 (nx (ri ?_))
   injection h with h; subst h
   exact r1 (v := (vI x1))
theorem OK_wSzExprSS_L0 (p0 : (List (List GExpr))) (x1 : Int) (x5 : Int) (r : Int) (h : wSzExprSS_L0 p0 x1 x5 = some r) : avc Tryz.prog acwSzExprSS_L0 (qwSzExprSS_1 r) (stwSzExprSS_L0 p0 x1 x5) := (OKs_wSzExprSS_L0 p0) x1 x5 r h
theorem OK_wSzExprSS (p0 : (List (List GExpr))) (p1 : Int) : FOk Tryz.prog 10 [(.d (.sl 1 (p0.map (cSl 10 cGExpr)))), (vI p1)] (fun y => (vI y)) (wSzExprSS p0 p1) := by
 intro r h
 rw [wSzExprSS] at h
 refine aof trwSzExprSS ?_
 show avc Tryz.prog acwSzExprSS (qwSzExprSS _) ⟨[(0, (.d (.sl 1 (p0.map (cSl 10 cGExpr))))), (1, (vI p1))], []⟩
 delta acwSzExprSS
 refine so ?_
 let a0 : St := ⟨[(4, (vI 0)), (0, (.d (.sl 1 (p0.map (cSl 10 cGExpr))))), (1, (vI p1))], []⟩
 refine st 1 a0 (nx (so ?_))
 let a1 : St := a0.p [(7, (.d (.sl 1 (p0.map (cSl 10 cGExpr))))), (6, (vI p1))]
 refine st 2 a1 (ps (vI (ln p0)) (vln (sz := 1) (l := p0) (f := (cSl 10 cGExpr))) ?_)
 let a2 : St := a1.p [(1, (vI (IntKind.wrap .i64 (p1 - (ln p0))))), (9, (vI (IntKind.wrap .i64 (p1 - (ln p0))))), (8, (vI (ln p0)))]
 refine st 2 a2 (nx (si (so ?_)))
 let a3 : St := a2.p [(11, (vB (decide ((IntKind.wrap .i64 (p1 - (ln p0))) < 0)))), (10, (vI (IntKind.wrap .i64 (p1 - (ln p0)))))]
 refine st 2 a3 (nx ?_)
 refine cd h (fun h => ?_) fun h => ?_
 refine so ?_
 let a4 : St := a3.p [(4, (vI (-1)))]
 refine st 1 a4 (nx (ri (tr ?_)))
 injection h with h; subst h
 exact r1 (v := (vI (-1)))
 refine ki (xi (si (so ?_)))
 let a5 : St := a3.p [(5, (vI 0))]
 exact st 1 a5 (nx (bi (loop_go (s' := stwSzExprSS_L0 p0 (IntKind.wrap .i64 (p1 - (ln p0))) 0) (wr [] (es (es (es er_nil))) br_nil) (OK_wSzExprSS_L0 p0 (IntKind.wrap .i64 (p1 - (ln p0))) 0 _ h))))
theorem OKs_wSzStringS_L0 (p0 : (List (List UInt8))) : (∀ (x1 : Int) (x5 : Int) (r : Int), wSzStringS_L0 p0 x1 x5 = some r → avc Tryz.prog acwSzStringS_L0 (qwSzStringS_1 r) (stwSzStringS_L0 p0 x1 x5)) := by
 refine wSzStringS_L0.partial_correctness p0 (fun x1 x5 r => avc Tryz.prog acwSzStringS_L0 (qwSzStringS_1 r) (stwSzStringS_L0 p0 x1 x5)) ?_
 · intro F_wSzStringS_L0 OK_wSzStringS_L0 x1 x5 r h
   delta acwSzStringS_L0
   refine loop_unroll (si (so ?_))
   let a6 : St := (stwSzStringS_L0 p0 x1 x5).p [(13, (.d (.sl 1 (p0.map cStr)))), (12, (vI x5))]
   refine st 2 a6 (ps (vI (ln p0)) (vln (sz := 1) (l := p0) (f := cStr)) ?_)
   let a7 : St := a6.p [(15, (vB (decide (x5 < (ln p0))))), (14, (vI (ln p0)))]
   refine st 1 a7 (nx ?_)
   refine cd h (fun h => ?_) fun h => ?_
   refine ki (xi (si (bi (so ?_))))
   let a8 : St := a7.p [(20, (vI x5)), (19, (.d (.sl 1 (p0.map cStr)))), (18, (vI x1))]
   refine st 3 a8 (vs (fun (y : (List UInt8)) => (.rp [(.s (bs y))])) h (fun y hy => via (l := p0) (f := cStr) (g := cStr) (k := .i64) hy (fun _ => rfl)) fun y1 h => ?_)
   let a9 : St := a8.p [(1, (vI (IntKind.wrap .i64 (x1 - (ln y1))))), (24, (vI (IntKind.wrap .i64 (x1 - (ln y1))))), (23, (vI (ln y1))), (22, (vS y1)), (21, (.rp [(.s (bs y1))]))]
   refine st 4 a9 (nx (so ?_))
   let a10 : St := a9.p [(26, (vB (decide ((IntKind.wrap .i64 (x1 - (ln y1))) < 0)))), (25, (vI (IntKind.wrap .i64 (x1 - (ln y1)))))]
   refine st 2 a10 (nx ?_)
   refine cd h (fun h => ?_) fun h => ?_
   refine so ?_
   let a11 : St := a10.p [(4, (vI (-1)))]
   refine st 1 a11 (nx (ri (br (tr (tr (br (tr ?_)))))))
   injection h with h; subst h
   exact r1 (v := (vI (-1)))
   refine ki (bn (xi (oi ?_)))
   let a12 : St := a10.p [(5, (vI (IntKind.wrap .i64 (x5 + 1)))), (17, (vI (IntKind.wrap .i64 (x5 + 1)))), (16, (vI x5))]
   exact st 3 a12 (ni (loop_back (s' := stwSzStringS_L0 p0 (IntKind.wrap .i64 (x1 - (ln y1))) (IntKind.wrap .i64 (x5 + 1))) (wr [] (es (es (es er_nil))) br_nil) (OK_wSzStringS_L0 (IntKind.wrap .i64 (x1 - (ln y1))) (IntKind.wrap .i64 (x5 + 1)) _ h)))
   refine ei (te (te (bh (xi (so ?_)))))
   let a13 : St := a7.p [(4, (vI x1)), (27, (vI x1))]
   refine st 2 a13 (nx (ri ?_))
   injection h with h; subst h
   exact r1 (v := (vI x1))
theorem OK_wSzStringS_L0 (p0 : (List (List UInt8))) (x1 : Int) (x5 : Int) (r : Int) (h : wSzStringS_L0 p0 x1 x5 = some r) : avc Tryz.prog acwSzStringS_L0 (qwSzStringS_1 r) (stwSzStringS_L0 p0 x1 x5) := (OKs_wSzStringS_L0 p0) x1 x5 r h
theorem OK_wSzStringS (p0 : (List (List UInt8))) (p1 : Int) : FOk Tryz.prog 11 [(.d (.sl 1 (p0.map cStr))), (vI p1)] (fun y => (vI y)) (wSzStringS p0 p1) := by
 intro r h
 rw [wSzStringS] at h
 refine aof trwSzStringS ?_
 show avc Tryz.prog acwSzStringS (qwSzStringS _) ⟨[(0, (.d (.sl 1 (p0.map cStr)))), (1, (vI p1))], []⟩
 delta acwSzStringS
 refine so ?_
 let a0 : St := ⟨[(4, (vI 0)), (0, (.d (.sl 1 (p0.map cStr)))), (1, (vI p1))], []⟩
 refine st 1 a0 (nx (so ?_))
 let a1 : St := a0.p [(7, (.d (.sl 1 (p0.map cStr)))), (6, (vI p1))]
 refine st 2 a1 (ps (vI (ln p0)) (vln (sz := 1) (l := p0) (f := cStr)) ?_)
 let a2 : St := a1.p [(1, (vI (IntKind.wrap .i64 (p1 - (ln p0))))), (9, (vI (IntKind.wrap .i64 (p1 - (ln p0))))), (8, (vI (ln p0)))]
 refine st 2 a2 (nx (si (so ?_)))
 let a3 : St := a2.p [(11, (vB (decide ((IntKind.wrap .i64 (p1 - (ln p0))) < 0)))), (10, (vI (IntKind.wrap .i64 (p1 - (ln p0)))))]
 refine st 2 a3 (nx ?_)
 refine cd h (fun h => ?_) fun h => ?_
 refine so ?_
 let a4 : St := a3.p [(4, (vI (-1)))]
 refine st 1 a4 (nx (ri (tr ?_)))
 injection h with h; subst h
 exact r1 (v := (vI (-1)))
 refine ki (xi (si (so ?_)))
 let a5 : St := a3.p [(5, (vI 0))]
 exact st 1 a5 (nx (bi (loop_go (s' := stwSzStringS_L0 p0 (IntKind.wrap .i64 (p1 - (ln p0))) 0) (wr [] (es (es (es er_nil))) br_nil) (OK_wSzStringS_L0 p0 (IntKind.wrap .i64 (p1 - (ln p0))) 0 _ h))))
theorem OK_wSzStmt (p0 : GStmt) (p1 : Int) : FOk Tryz.prog 4 [(vGStmt p0), (vI p1)] (fun y => (vI y)) (wSzStmt p0 p1) := by
 intro r h
 rw [wSzStmt] at h
 refine aof trwSzStmt ?_
 show avc Tryz.prog acwSzStmt (qwSzStmt _) ⟨[(0, (vGStmt p0)), (1, (vI p1))], []⟩
 delta acwSzStmt
 refine so ?_
 let a0 : St := ⟨[(4, (vI 0)), (2, (.ptr 2 0)), (0, (vGStmt p0)), (1, (vI p1))], [(2, bGStmt p0)]⟩
 refine st 2 a0 (nx (so ?_))
 let a1 : St := a0.p [(7, (vI p1)), (6, (vGQuery p0.query)), (5, (.ptr 2 1))]
 refine st 3 a1 (cs h (OK_wSzQuery p0.query p1) fun y1 h => ?_)
 let a2 : St := a1.p [(1, (vI y1)), (8, (vI y1))]
 refine st 1 a2 (nx (si (so ?_)))
 let a3 : St := a2.p [(10, (vB (decide (y1 < 0)))), (9, (vI y1))]
 refine st 2 a3 (nx ?_)
 refine cd h (fun h => ?_) fun h => ?_
 refine so ?_
 let a4 : St := a3.p [(4, (vI (-1)))]
 refine st 1 a4 (nx (ri (tr ?_)))
 injection h with h; subst h
 exact r1 (v := (vI (-1)))
 refine ki (xi (so ?_))
 let a5 : St := a3.p [(1, (vI (IntKind.wrap .i64 (y1 - (ln p0.table))))), (15, (vI (IntKind.wrap .i64 (y1 - (ln p0.table))))), (14, (vI (ln p0.table))), (13, (vS p0.table)), (12, (.ptr 2 7)), (11, (vI y1))]
 refine st 6 a5 (nx (si (so ?_)))
 let a6 : St := a5.p [(17, (vB (decide ((IntKind.wrap .i64 (y1 - (ln p0.table))) < 0)))), (16, (vI (IntKind.wrap .i64 (y1 - (ln p0.table)))))]
 refine st 2 a6 (nx ?_)
 refine cd h (fun h => ?_) fun h => ?_
 refine so ?_
 let a7 : St := a6.p [(4, (vI (-1)))]
 refine st 1 a7 (nx (ri (tr ?_)))
 injection h with h; subst h
 exact r1 (v := (vI (-1)))
 refine ki (xi (so ?_))
 let a8 : St := a6.p [(20, (vI (IntKind.wrap .i64 (y1 - (ln p0.table))))), (19, (.d (.sl 1 (p0.rows.map (cSl 10 cGExpr))))), (18, (.ptr 2 8))]
 refine st 3 a8 (cs h (OK_wSzExprSS p0.rows (IntKind.wrap .i64 (y1 - (ln p0.table)))) fun y2 h => ?_)
 let a9 : St := a8.p [(1, (vI y2)), (21, (vI y2))]
 refine st 1 a9 (nx (si (so ?_)))
 let a10 : St := a9.p [(23, (vB (decide (y2 < 0)))), (22, (vI y2))]
 refine st 2 a10 (nx ?_)
 refine cd h (fun h => ?_) fun h => ?_
 refine so ?_
 let a11 : St := a10.p [(4, (vI (-1)))]
 refine st 1 a11 (nx (ri (tr ?_)))
 injection h with h; subst h
 exact r1 (v := (vI (-1)))
 refine ki (xi (so ?_))
 let a12 : St := a10.p [(26, (vI y2)), (25, (.d (.sl 1 (p0.cols.map cStr)))), (24, (.ptr 2 9))]
 refine st 3 a12 (cs h (OK_wSzStringS p0.cols y2) fun y3 h => ?_)
 let a13 : St := a12.p [(1, (vI y3)), (27, (vI y3))]
 refine st 1 a13 (nx (si (so ?_)))
 let a14 : St := a13.p [(29, (vB (decide (y3 < 0)))), (28, (vI y3))]
 refine st 2 a14 (nx ?_)
 refine cd h (fun h => ?_) fun h => ?_
 refine so ?_
 let a15 : St := a14.p [(4, (vI (-1)))]
 refine st 1 a15 (nx (ri (tr ?_)))
 injection h with h; subst h
 exact r1 (v := (vI (-1)))
 refine ki (xi (so ?_))
 let a16 : St := a14.p [(32, (vI y3)), (31, (.d (.sl 10 (p0.sets.map cGExpr)))), (30, (.ptr 2 10))]
 refine st 3 a16 (cs h (OK_wSzExprS p0.sets y3) fun y4 h => ?_)
 let a17 : St := a16.p [(1, (vI y4)), (33, (vI y4))]
 refine st 1 a17 (nx (si (so ?_)))
 let a18 : St := a17.p [(35, (vB (decide (y4 < 0)))), (34, (vI y4))]
 refine st 2 a18 (nx ?_)
 refine cd h (fun h => ?_) fun h => ?_
 refine so ?_
 let a19 : St := a18.p [(4, (vI (-1)))]
 refine st 1 a19 (nx (ri (tr ?_)))
 injection h with h; subst h
 exact r1 (v := (vI (-1)))
 refine ki (xi (so ?_))
 let a20 : St := a18.p [(38, (vI y4)), (37, (.d (.sl 10 (p0.where_.map cGExpr)))), (36, (.ptr 2 11))]
 refine st 3 a20 (cs h (OK_wSzExprS p0.where_ y4) fun y5 h => ?_)
 let a21 : St := a20.p [(1, (vI y5)), (39, (vI y5))]
 refine st 1 a21 (nx (si (so ?_)))
 let a22 : St := a21.p [(41, (vB (decide (y5 < 0)))), (40, (vI y5))]
 refine st 2 a22 (nx ?_)
 refine cd h (fun h => ?_) fun h => ?_
 refine so ?_
 let a23 : St := a22.p [(4, (vI (-1)))]
 refine st 1 a23 (nx (ri (tr ?_)))
 injection h with h; subst h
 exact r1 (v := (vI (-1)))
 refine ki (xi (so ?_))
 let a24 : St := a22.p [(4, (vI y5)), (42, (vI y5))]
 refine st 2 a24 (nx (ri ?_))
 injection h with h; subst h
 exact r1 (v := (vI y5))
theorem OK_wToValue (p0 : GValue) : FOk Tryz.prog 90 [(vGValue p0)] (fun y => (vGValue y)) (wToValue p0) := by
 intro r h
 rw [wToValue] at h
 refine aof trwToValue ?_
 show avc Tryz.prog acwToValue (qwToValue _) ⟨[(0, (vGValue p0))], []⟩
 delta acwToValue
 refine so ?_
 let a0 : St := ⟨[(2, (.ptr 2 0)), (1, (.ptr 1 0)), (0, (vGValue p0))], [(2, [(vI 0), (vI 0), (vS [])]), (1, bGValue p0)]⟩
 refine st 2 a0 (nx (so ?_))
 let a1 : St := ⟨(3, (.ptr 3 0)) :: a0.env, [(3, [(vI 0), (vI 0), (vS [])]), (2, [(vI 0), (vI 0), (vS [])]), (1, bGValue p0)]⟩
 refine st 1 a1 (nx (so ?_))
 let a2 : St := ⟨(6, (.ptr 3 0)) :: (5, (vI p0.kind)) :: (4, (.ptr 1 0)) :: a1.env, [(3, [(vI p0.kind), (vI 0), (vS [])]), (2, [(vI 0), (vI 0), (vS [])]), (1, bGValue p0)]⟩
 refine st 4 a2 (nx (so ?_))
 let a3 : St := ⟨(9, (.ptr 3 1)) :: (8, (vI p0.num)) :: (7, (.ptr 1 1)) :: a2.env, [(3, [(vI p0.kind), (vI p0.num), (vS [])]), (2, [(vI 0), (vI 0), (vS [])]), (1, bGValue p0)]⟩
 refine st 4 a3 (nx (so ?_))
 let a4 : St := ⟨(12, (.ptr 3 2)) :: (11, (vS p0.text)) :: (10, (.ptr 1 2)) :: a3.env, [(3, [(vI p0.kind), (vI p0.num), (vS p0.text)]), (2, [(vI 0), (vI 0), (vS [])]), (1, bGValue p0)]⟩
 refine st 4 a4 (nx (so ?_))
 let a5 : St := ⟨(13, (vGValue p0)) :: a4.env, [(3, [(vI p0.kind), (vI p0.num), (vS p0.text)]), (2, bGValue p0), (1, bGValue p0)]⟩
 refine st 2 a5 (nx (ri ?_))
 injection h with h; subst h
 exact r1 (v := (vGValue p0))
end Go.Proofs.YtdiknmniclancaaGreat
