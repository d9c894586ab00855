/- That the code computes these functions (printed by a program). -/
import Derived.Test.YtkdkhdefdfkagaaCExactPutPExpr0
namespace Go.Proofs.Ytkdkhdefdfkagaa
open Go Go.RowKit Go.Ab
theorem OKs_wEqPSort : (∀ (p0 : GPSort) (p1 : GPSort) (r : Bool), wEqPSort p0 p1 = some r → ACalls Try.prog 51 [(vGPSort p0), (vGPSort p1)] [] fun x _ => x = (fun y => (vB y)) r) ∧ (∀ (p0 : GPExpr) (p1 : GPExpr) (r : Bool), wEqPExpr p0 p1 = some r → ACalls Try.prog 9 [(vGPExpr p0), (vGPExpr p1)] [] fun x _ => x = (fun y => (vB y)) r) ∧ (∀ (p0 : (List GPlan)) (p1 : (List GPlan)) (r : Bool), wEqPlanS p0 p1 = some r → ACalls Try.prog 26 [(.d (.sl 8 (p0.map cGPlan))), (.d (.sl 8 (p1.map cGPlan)))] [] fun x _ => x = (fun y => (vB y)) r) ∧ (∀ (p0 : (List GPlan)) (p1 : (List GPlan)) (x5 : Int) (r : Bool), wEqPlanS_L0 p0 p1 x5 = some r → avc Try.prog acwEqPlanS_L0 (qwEqPlanS_1 r) (stwEqPlanS_L0 p0 p1 x5)) ∧ (∀ (p0 : GPlan) (p1 : GPlan) (r : Bool), wEqPlan p0 p1 = some r → ACalls Try.prog 14 [(vGPlan p0), (vGPlan p1)] [] fun x _ => x = (fun y => (vB y)) r) ∧ (∀ (p0 : (List GPSort)) (p1 : (List GPSort)) (r : Bool), wEqPSortS p0 p1 = some r → ACalls Try.prog 39 [(.d (.sl 11 (p0.map cGPSort))), (.d (.sl 11 (p1.map cGPSort)))] [] fun x _ => x = (fun y => (vB y)) r) ∧ (∀ (p0 : (List GPSort)) (p1 : (List GPSort)) (x5 : Int) (r : Bool), wEqPSortS_L0 p0 p1 x5 = some r → avc Try.prog acwEqPSortS_L0 (qwEqPSortS_1 r) (stwEqPSortS_L0 p0 p1 x5)) ∧ (∀ (p0 : (List GPExpr)) (p1 : (List GPExpr)) (r : Bool), wEqPExprS p0 p1 = some r → ACalls Try.prog 25 [(.d (.sl 10 (p0.map cGPExpr))), (.d (.sl 10 (p1.map cGPExpr)))] [] fun x _ => x = (fun y => (vB y)) r) ∧ (∀ (p0 : (List GPExpr)) (p1 : (List GPExpr)) (x5 : Int) (r : Bool), wEqPExprS_L0 p0 p1 x5 = some r → avc Try.prog acwEqPExprS_L0 (qwEqPExprS_1 r) (stwEqPExprS_L0 p0 p1 x5)) ∧ (∀ (p0 : (List (List GPExpr))) (p1 : (List (List GPExpr))) (r : Bool), wEqPExprSS p0 p1 = some r → ACalls Try.prog 38 [(.d (.sl 1 (p0.map (cSl 10 cGPExpr)))), (.d (.sl 1 (p1.map (cSl 10 cGPExpr))))] [] fun x _ => x = (fun y => (vB y)) r) ∧ (∀ (p0 : (List (List GPExpr))) (p1 : (List (List GPExpr))) (x5 : Int) (r : Bool), wEqPExprSS_L0 p0 p1 x5 = some r → avc Try.prog acwEqPExprSS_L0 (qwEqPExprSS_1 r) (stwEqPExprSS_L0 p0 p1 x5)) := by
 refine wEqPSort.mutual_partial_correctness (fun p0 p1 r => ACalls Try.prog 51 [(vGPSort p0), (vGPSort p1)] [] fun x _ => x = (fun y => (vB y)) r) (fun p0 p1 r => ACalls Try.prog 9 [(vGPExpr p0), (vGPExpr p1)] [] fun x _ => x = (fun y => (vB y)) r) (fun p0 p1 r => ACalls Try.prog 26 [(.d (.sl 8 (p0.map cGPlan))), (.d (.sl 8 (p1.map cGPlan)))] [] fun x _ => x = (fun y => (vB y)) r) (fun p0 p1 x5 r => avc Try.prog acwEqPlanS_L0 (qwEqPlanS_1 r) (stwEqPlanS_L0 p0 p1 x5)) (fun p0 p1 r => ACalls Try.prog 14 [(vGPlan p0), (vGPlan p1)] [] fun x _ => x = (fun y => (vB y)) r) (fun p0 p1 r => ACalls Try.prog 39 [(.d (.sl 11 (p0.map cGPSort))), (.d (.sl 11 (p1.map cGPSort)))] [] fun x _ => x = (fun y => (vB y)) r) (fun p0 p1 x5 r => avc Try.prog acwEqPSortS_L0 (qwEqPSortS_1 r) (stwEqPSortS_L0 p0 p1 x5)) (fun p0 p1 r => ACalls Try.prog 25 [(.d (.sl 10 (p0.map cGPExpr))), (.d (.sl 10 (p1.map cGPExpr)))] [] fun x _ => x = (fun y => (vB y)) r) (fun p0 p1 x5 r => avc Try.prog acwEqPExprS_L0 (qwEqPExprS_1 r) (stwEqPExprS_L0 p0 p1 x5)) (fun p0 p1 r => ACalls Try.prog 38 [(.d (.sl 1 (p0.map (cSl 10 cGPExpr)))), (.d (.sl 1 (p1.map (cSl 10 cGPExpr))))] [] fun x _ => x = (fun y => (vB y)) r) (fun p0 p1 x5 r => avc Try.prog acwEqPExprSS_L0 (qwEqPExprSS_1 r) (stwEqPExprSS_L0 p0 p1 x5)) ?_ ?_ ?_ ?_ ?_ ?_ ?_ ?_ ?_ ?_ ?_
 · intro F_wEqPExpr OK_wEqPExpr p0 p1 r h
   refine acalls_of_fn trwEqPSort (Nat.le_of_ble_eq_true rfl) (by simp) ?_
   show avc Try.prog acwEqPSort (qwEqPSort _) ⟨[(0, (vGPSort p0)), (1, (vGPSort p1))], []⟩
   delta acwEqPSort
   refine so ?_
   let a0 : St := ⟨[(4, (vB false)), (3, (.ptr 3 0)), (2, (.ptr 2 0)), (0, (vGPSort p0)), (1, (vGPSort p1))], [(3, bGPSort p1), (2, bGPSort p0)]⟩
   refine st 3 a0 (nx (si (so ?_)))
   let a1 : St := a0.p [(8, (vGPExpr p1.expr)), (7, (.ptr 3 0)), (6, (vGPExpr p0.expr)), (5, (.ptr 2 0))]
   refine st 4 a1 (cs h (OK_wEqPExpr p0.expr p1.expr) fun y1 h => ?_)
   let a2 : St := a1.p [(10, (vB (!y1))), (9, (vB y1))]
   refine st 1 a2 (nx ?_)
   refine cd h (fun h => ?_) fun h => ?_
   refine so ?_
   let a3 : St := a2.p [(4, (vB false))]
   refine st 1 a3 (nx (ri (tr ?_)))
   injection h with h; subst h
   exact ret1_step (v := (vB false)) (by kernel_rfl) (by kernel_rfl) (by kernel_rfl)
   refine ki (xi (si (so ?_)))
   let a4 : St := a2.p [(15, (vB (!(p0.desc == p1.desc)))), (14, (vB p1.desc)), (13, (.ptr 3 10)), (12, (vB p0.desc)), (11, (.ptr 2 10))]
   refine st 5 a4 (nx ?_)
   refine cd h (fun h => ?_) fun h => ?_
   refine so ?_
   let a5 : St := a4.p [(4, (vB false))]
   refine st 1 a5 (nx (ri (tr ?_)))
   injection h with h; subst h
   exact ret1_step (v := (vB false)) (by kernel_rfl) (by kernel_rfl) (by kernel_rfl)
   refine ki (xi (so ?_))
   let a6 : St := a4.p [(4, (vB true))]
   refine st 1 a6 (nx (ri ?_))
   injection h with h; subst h
   exact ret1_step (v := (vB true)) (by kernel_rfl) (by kernel_rfl) (by kernel_rfl)
 · intro F_wEqPlanS F_wEqPExprS OK_wEqPlanS OK_wEqPExprS p0 p1 r h
   refine acalls_of_fn trwEqPExpr (Nat.le_of_ble_eq_true rfl) (by simp) ?_
   show avc Try.prog acwEqPExpr (qwEqPExpr _) ⟨[(0, (vGPExpr p0)), (1, (vGPExpr p1))], []⟩
   delta acwEqPExpr
   refine so ?_
   let a0 : St := ⟨[(4, (vB false)), (3, (.ptr 3 0)), (2, (.ptr 2 0)), (0, (vGPExpr p0)), (1, (vGPExpr p1))], [(3, bGPExpr p1), (2, bGPExpr p0)]⟩
   refine st 3 a0 (nx (si (so ?_)))
   let a1 : St := a0.p [(9, (vB (!decide (p0.kind = p1.kind)))), (8, (vI p1.kind)), (7, (.ptr 3 0)), (6, (vI p0.kind)), (5, (.ptr 2 0))]
   refine st 5 a1 (nx ?_)
   refine cd h (fun h => ?_) fun h => ?_
   refine so ?_
   let a2 : St := a1.p [(4, (vB false))]
   refine st 1 a2 (nx (ri (tr ?_)))
   injection h with h; subst h
   exact ret1_step (v := (vB false)) (by kernel_rfl) (by kernel_rfl) (by kernel_rfl)
   refine ki (xi (si (so ?_)))
   let a3 : St := a1.p [(14, (vB (!decide (p0.op = p1.op)))), (13, (vI p1.op)), (12, (.ptr 3 1)), (11, (vI p0.op)), (10, (.ptr 2 1))]
   refine st 5 a3 (nx ?_)
   refine cd h (fun h => ?_) fun h => ?_
   refine so ?_
   let a4 : St := a3.p [(4, (vB false))]
   refine st 1 a4 (nx (ri (tr ?_)))
   injection h with h; subst h
   exact ret1_step (v := (vB false)) (by kernel_rfl) (by kernel_rfl) (by kernel_rfl)
   refine ki (xi (si (so ?_)))
   let a5 : St := a3.p [(19, (vB (!(p0.not_ == p1.not_)))), (18, (vB p1.not_)), (17, (.ptr 3 2)), (16, (vB p0.not_)), (15, (.ptr 2 2))]
   refine st 5 a5 (nx ?_)
   refine cd h (fun h => ?_) fun h => ?_
   refine so ?_
   let a6 : St := a5.p [(4, (vB false))]
   refine st 1 a6 (nx (ri (tr ?_)))
   injection h with h; subst h
   exact ret1_step (v := (vB false)) (by kernel_rfl) (by kernel_rfl) (by kernel_rfl)
   refine ki (xi (si (so ?_)))
   let a7 : St := a5.p [(23, (vGValue p1.value)), (22, (.ptr 3 3)), (21, (vGValue p0.value)), (20, (.ptr 2 3))]
   refine st 4 a7 (cs h (OK_wEqValue p0.value p1.value) fun y1 h => ?_)
   let a8 : St := a7.p [(25, (vB (!y1))), (24, (vB y1))]
   refine st 1 a8 (nx ?_)
   refine cd h (fun h => ?_) fun h => ?_
   refine so ?_
   let a9 : St := a8.p [(4, (vB false))]
   refine st 1 a9 (nx (ri (tr ?_)))
   injection h with h; subst h
   exact ret1_step (v := (vB false)) (by kernel_rfl) (by kernel_rfl) (by kernel_rfl)
   refine ki (xi (si (so ?_)))
   let a10 : St := a8.p [(30, (vB (!decide (p0.up = p1.up)))), (29, (vI p1.up)), (28, (.ptr 3 6)), (27, (vI p0.up)), (26, (.ptr 2 6))]
   refine st 5 a10 (nx ?_)
   refine cd h (fun h => ?_) fun h => ?_
   refine so ?_
   let a11 : St := a10.p [(4, (vB false))]
   refine st 1 a11 (nx (ri (tr ?_)))
   injection h with h; subst h
   exact ret1_step (v := (vB false)) (by kernel_rfl) (by kernel_rfl) (by kernel_rfl)
   refine ki (xi (si (so ?_)))
   let a12 : St := a10.p [(35, (vB (!decide (p0.at_ = p1.at_)))), (34, (vI p1.at_)), (33, (.ptr 3 7)), (32, (vI p0.at_)), (31, (.ptr 2 7))]
   refine st 5 a12 (nx ?_)
   refine cd h (fun h => ?_) fun h => ?_
   refine so ?_
   let a13 : St := a12.p [(4, (vB false))]
   refine st 1 a13 (nx (ri (tr ?_)))
   injection h with h; subst h
   exact ret1_step (v := (vB false)) (by kernel_rfl) (by kernel_rfl) (by kernel_rfl)
   refine ki (xi (si (so ?_)))
   let a14 : St := a12.p [(39, (.d (.sl 10 (p1.kids.map cGPExpr)))), (38, (.ptr 3 8)), (37, (.d (.sl 10 (p0.kids.map cGPExpr)))), (36, (.ptr 2 8))]
   refine st 4 a14 (cs h (OK_wEqPExprS p0.kids p1.kids) fun y2 h => ?_)
   let a15 : St := a14.p [(41, (vB (!y2))), (40, (vB y2))]
   refine st 1 a15 (nx ?_)
   refine cd h (fun h => ?_) fun h => ?_
   refine so ?_
   let a16 : St := a15.p [(4, (vB false))]
   refine st 1 a16 (nx (ri (tr ?_)))
   injection h with h; subst h
   exact ret1_step (v := (vB false)) (by kernel_rfl) (by kernel_rfl) (by kernel_rfl)
   refine ki (xi (si (so ?_)))
   let a17 : St := a15.p [(45, (.d (.sl 8 (p1.sub.map cGPlan)))), (44, (.ptr 3 9)), (43, (.d (.sl 8 (p0.sub.map cGPlan)))), (42, (.ptr 2 9))]
   refine st 4 a17 (cs h (OK_wEqPlanS p0.sub p1.sub) fun y3 h => ?_)
   let a18 : St := a17.p [(47, (vB (!y3))), (46, (vB y3))]
   refine st 1 a18 (nx ?_)
   refine cd h (fun h => ?_) fun h => ?_
   refine so ?_
   let a19 : St := a18.p [(4, (vB false))]
   refine st 1 a19 (nx (ri (tr ?_)))
   injection h with h; subst h
   exact ret1_step (v := (vB false)) (by kernel_rfl) (by kernel_rfl) (by kernel_rfl)
   refine ki (xi (so ?_))
   let a20 : St := a18.p [(4, (vB true))]
   refine st 1 a20 (nx (ri ?_))
   injection h with h; subst h
   exact ret1_step (v := (vB true)) (by kernel_rfl) (by kernel_rfl) (by kernel_rfl)
 · intro F_wEqPlanS_L0 OK_wEqPlanS_L0 p0 p1 r h
   refine acalls_of_fn trwEqPlanS (Nat.le_of_ble_eq_true rfl) (by simp) ?_
   show avc Try.prog acwEqPlanS (qwEqPlanS _) ⟨[(0, (.d (.sl 8 (p0.map cGPlan)))), (1, (.d (.sl 8 (p1.map cGPlan))))], []⟩
   delta acwEqPlanS
   refine so ?_
   let a0 : St := ⟨[(4, (vB false)), (0, (.d (.sl 8 (p0.map cGPlan)))), (1, (.d (.sl 8 (p1.map cGPlan))))], []⟩
   refine st 1 a0 (nx (si (so ?_)))
   let a1 : St := a0.p [(6, (.d (.sl 8 (p0.map cGPlan))))]
   refine st 1 a1 (ps (vI (p0.length : Int)) (vop_len (sz := 8) (l := p0) (f := cGPlan) (by kernel_rfl) (by kernel_rfl)) ?_)
   let a2 : St := a1.p [(8, (.d (.sl 8 (p1.map cGPlan)))), (7, (vI (p0.length : Int)))]
   refine st 1 a2 (ps (vI (p1.length : Int)) (vop_len (sz := 8) (l := p1) (f := cGPlan) (by kernel_rfl) (by kernel_rfl)) ?_)
   let a3 : St := a2.p [(10, (vB (!decide ((p0.length : Int) = (p1.length : Int))))), (9, (vI (p1.length : Int)))]
   refine st 1 a3 (nx ?_)
   refine cd h (fun h => ?_) fun h => ?_
   refine so ?_
   let a4 : St := a3.p [(4, (vB false))]
   refine st 1 a4 (nx (ri (tr ?_)))
   injection h with h; subst h
   exact ret1_step (v := (vB false)) (by kernel_rfl) (by kernel_rfl) (by kernel_rfl)
   refine ki (xi (si (so ?_)))
   let a5 : St := a3.p [(5, (vI 0))]
   exact st 1 a5 (nx (bi (loop_go (s' := stwEqPlanS_L0 p0 p1 0) (wr [] (es (es (es er_nil))) br_nil) (OK_wEqPlanS_L0 p0 p1 0 _ h))))
 · intro F_wEqPlanS_L0 F_wEqPlan OK_wEqPlanS_L0 OK_wEqPlan p0 p1 x5 r h
   delta acwEqPlanS_L0
   refine loop_unroll (si (so ?_))
   let a6 : St := (stwEqPlanS_L0 p0 p1 x5).p [(12, (.d (.sl 8 (p0.map cGPlan)))), (11, (vI x5))]
   refine st 2 a6 (ps (vI (p0.length : Int)) (vop_len (sz := 8) (l := p0) (f := cGPlan) (by kernel_rfl) (by kernel_rfl)) ?_)
   let a7 : St := a6.p [(14, (vB (decide (x5 < (p0.length : Int))))), (13, (vI (p0.length : Int)))]
   refine st 1 a7 (nx ?_)
   refine cd h (fun h => ?_) fun h => ?_
   refine ki (xi (si (bi (si (dops_in ?_)))))
   let a8 : St := a7.p [(18, (vI x5)), (17, (.d (.sl 8 (p0.map cGPlan))))]
   refine dsts_ok 2 (s' := a8) (by kernel_rfl) (dv_step (m := idx p0 x5) (v' := fun y => (.rp (oGPlan y))) h rfl rfl (fun y hy => vop_ia (l := p0) (f := cGPlan) (g := oGPlan) (k := .i64) hy cGPlan_eq (by kernel_rfl) (by kernel_rfl) (by kernel_rfl)) ?_)
   clear h; intro y1 h
   let a9 : St := a8.p [(22, (vI x5)), (21, (.d (.sl 8 (p1.map cGPlan)))), (20, (vGPlan y1)), (19, (.rp (oGPlan y1)))]
   refine dsts_ok 3 (s' := a9) (by kernel_rfl) (dv_step (m := idx p1 x5) (v' := fun y => (.rp (oGPlan y))) h rfl rfl (fun y hy => vop_ia (l := p1) (f := cGPlan) (g := oGPlan) (k := .i64) hy cGPlan_eq (by kernel_rfl) (by kernel_rfl) (by kernel_rfl)) ?_)
   clear h; intro y2 h
   let a10 : St := a9.p [(24, (vGPlan y2)), (23, (.rp (oGPlan y2)))]
   refine dsts_ok 1 (s' := a10) (by kernel_rfl) (dcall_step (m := F_wEqPlan y1 y2) (args := [(vGPlan y1), (vGPlan y2)]) (v' := (fun y => (vB y))) h (OK_wEqPlan y1 y2) (by kernel_rfl) (by kernel_rfl) (fun _ => rfl) ?_)
   clear h; intro y3 h
   let a11 : St := a10.p [(26, (vB (!y3))), (25, (vB y3))]
   refine dsts_ok 1 (s' := a11) (by kernel_rfl) (dnil_in (by kernel_rfl) (by kernel_rfl) (xi ?_))
   refine cd h (fun h => ?_) fun h => ?_
   refine so ?_
   let a12 : St := a11.p [(4, (vB false))]
   refine st 1 a12 (nx (ri (br (tr (tr (br (tr ?_)))))))
   injection h with h; subst h
   exact ret1_step (v := (vB false)) (by kernel_rfl) (by kernel_rfl) (by kernel_rfl)
   refine ki (bn (xi (oi ?_)))
   let a13 : St := a11.p [(5, (vI (IntKind.wrap .i64 (x5 + 1)))), (16, (vI (IntKind.wrap .i64 (x5 + 1)))), (15, (vI x5))]
   exact st 3 a13 (ni (loop_back (s' := stwEqPlanS_L0 p0 p1 (IntKind.wrap .i64 (x5 + 1))) (wr [] (es (es (es er_nil))) br_nil) (OK_wEqPlanS_L0 p0 p1 (IntKind.wrap .i64 (x5 + 1)) _ h)))
   refine ei (te (te (bh (xi (so ?_)))))
   let a14 : St := a7.p [(4, (vB true))]
   refine st 1 a14 (nx (ri ?_))
   injection h with h; subst h
   exact ret1_step (v := (vB true)) (by kernel_rfl) (by kernel_rfl) (by kernel_rfl)
 · intro F_wEqPSortS F_wEqPExprS F_wEqPExprSS OK_wEqPSortS OK_wEqPExprS OK_wEqPExprSS p0 p1 r h
   refine acalls_of_fn trwEqPlan (Nat.le_of_ble_eq_true rfl) (by simp) ?_
   show avc Try.prog acwEqPlan (qwEqPlan _) ⟨[(0, (vGPlan p0)), (1, (vGPlan p1))], []⟩
   delta acwEqPlan
   refine so ?_
   let a0 : St := ⟨[(4, (vB false)), (3, (.ptr 3 0)), (2, (.ptr 2 0)), (0, (vGPlan p0)), (1, (vGPlan p1))], [(3, bGPlan p1), (2, bGPlan p0)]⟩
   refine st 3 a0 (nx (si (so ?_)))
   let a1 : St := a0.p [(8, (.d (.sl 1 (p1.tables.map cI)))), (7, (.ptr 3 0)), (6, (.d (.sl 1 (p0.tables.map cI)))), (5, (.ptr 2 0))]
   refine st 4 a1 (cs h (OK_wEqIntS p0.tables p1.tables) fun y1 h => ?_)
   let a2 : St := a1.p [(10, (vB (!y1))), (9, (vB y1))]
   refine st 1 a2 (nx ?_)
   refine cd h (fun h => ?_) fun h => ?_
   refine so ?_
   let a3 : St := a2.p [(4, (vB false))]
   refine st 1 a3 (nx (ri (tr ?_)))
   injection h with h; subst h
   exact ret1_step (v := (vB false)) (by kernel_rfl) (by kernel_rfl) (by kernel_rfl)
   refine ki (xi (si (so ?_)))
   let a4 : St := a2.p [(14, (.d (.sl 1 (p1.on_.map (cSl 10 cGPExpr))))), (13, (.ptr 3 1)), (12, (.d (.sl 1 (p0.on_.map (cSl 10 cGPExpr))))), (11, (.ptr 2 1))]
   refine st 4 a4 (cs h (OK_wEqPExprSS p0.on_ p1.on_) fun y2 h => ?_)
   let a5 : St := a4.p [(16, (vB (!y2))), (15, (vB y2))]
   refine st 1 a5 (nx ?_)
   refine cd h (fun h => ?_) fun h => ?_
   refine so ?_
   let a6 : St := a5.p [(4, (vB false))]
   refine st 1 a6 (nx (ri (tr ?_)))
   injection h with h; subst h
   exact ret1_step (v := (vB false)) (by kernel_rfl) (by kernel_rfl) (by kernel_rfl)
   refine ki (xi (si (so ?_)))
   let a7 : St := a5.p [(20, (.d (.sl 10 (p1.where_.map cGPExpr)))), (19, (.ptr 3 2)), (18, (.d (.sl 10 (p0.where_.map cGPExpr)))), (17, (.ptr 2 2))]
   refine st 4 a7 (cs h (OK_wEqPExprS p0.where_ p1.where_) fun y3 h => ?_)
   let a8 : St := a7.p [(22, (vB (!y3))), (21, (vB y3))]
   refine st 1 a8 (nx ?_)
   refine cd h (fun h => ?_) fun h => ?_
   refine so ?_
   let a9 : St := a8.p [(4, (vB false))]
   refine st 1 a9 (nx (ri (tr ?_)))
   injection h with h; subst h
   exact ret1_step (v := (vB false)) (by kernel_rfl) (by kernel_rfl) (by kernel_rfl)
   refine ki (xi (si (so ?_)))
   let a10 : St := a8.p [(26, (.d (.sl 11 (p1.order.map cGPSort)))), (25, (.ptr 3 3)), (24, (.d (.sl 11 (p0.order.map cGPSort)))), (23, (.ptr 2 3))]
   refine st 4 a10 (cs h (OK_wEqPSortS p0.order p1.order) fun y4 h => ?_)
   let a11 : St := a10.p [(28, (vB (!y4))), (27, (vB y4))]
   refine st 1 a11 (nx ?_)
   refine cd h (fun h => ?_) fun h => ?_
   refine so ?_
   let a12 : St := a11.p [(4, (vB false))]
   refine st 1 a12 (nx (ri (tr ?_)))
   injection h with h; subst h
   exact ret1_step (v := (vB false)) (by kernel_rfl) (by kernel_rfl) (by kernel_rfl)
   refine ki (xi (si (so ?_)))
   let a13 : St := a11.p [(32, (.d (.sl 10 (p1.items.map cGPExpr)))), (31, (.ptr 3 4)), (30, (.d (.sl 10 (p0.items.map cGPExpr)))), (29, (.ptr 2 4))]
   refine st 4 a13 (cs h (OK_wEqPExprS p0.items p1.items) fun y5 h => ?_)
   let a14 : St := a13.p [(34, (vB (!y5))), (33, (vB y5))]
   refine st 1 a14 (nx ?_)
   refine cd h (fun h => ?_) fun h => ?_
   refine so ?_
   let a15 : St := a14.p [(4, (vB false))]
   refine st 1 a15 (nx (ri (tr ?_)))
   injection h with h; subst h
   exact ret1_step (v := (vB false)) (by kernel_rfl) (by kernel_rfl) (by kernel_rfl)
   refine ki (xi (si (so ?_)))
   let a16 : St := a14.p [(38, (.d (.sl 1 (p1.names.map cStr)))), (37, (.ptr 3 5)), (36, (.d (.sl 1 (p0.names.map cStr)))), (35, (.ptr 2 5))]
   refine st 4 a16 (cs h (OK_wEqStringS p0.names p1.names) fun y6 h => ?_)
   let a17 : St := a16.p [(40, (vB (!y6))), (39, (vB y6))]
   refine st 1 a17 (nx ?_)
   refine cd h (fun h => ?_) fun h => ?_
   refine so ?_
   let a18 : St := a17.p [(4, (vB false))]
   refine st 1 a18 (nx (ri (tr ?_)))
   injection h with h; subst h
   exact ret1_step (v := (vB false)) (by kernel_rfl) (by kernel_rfl) (by kernel_rfl)
   refine ki (xi (si (so ?_)))
   let a19 : St := a17.p [(45, (vB (!(p0.distinct == p1.distinct)))), (44, (vB p1.distinct)), (43, (.ptr 3 6)), (42, (vB p0.distinct)), (41, (.ptr 2 6))]
   refine st 5 a19 (nx ?_)
   refine cd h (fun h => ?_) fun h => ?_
   refine so ?_
   let a20 : St := a19.p [(4, (vB false))]
   refine st 1 a20 (nx (ri (tr ?_)))
   injection h with h; subst h
   exact ret1_step (v := (vB false)) (by kernel_rfl) (by kernel_rfl) (by kernel_rfl)
   refine ki (xi (si (so ?_)))
   let a21 : St := a19.p [(50, (vB (!decide (p0.limit = p1.limit)))), (49, (vI p1.limit)), (48, (.ptr 3 7)), (47, (vI p0.limit)), (46, (.ptr 2 7))]
   refine st 5 a21 (nx ?_)
   refine cd h (fun h => ?_) fun h => ?_
   refine so ?_
   let a22 : St := a21.p [(4, (vB false))]
   refine st 1 a22 (nx (ri (tr ?_)))
   injection h with h; subst h
   exact ret1_step (v := (vB false)) (by kernel_rfl) (by kernel_rfl) (by kernel_rfl)
   refine ki (xi (so ?_))
   let a23 : St := a21.p [(4, (vB true))]
   refine st 1 a23 (nx (ri ?_))
   injection h with h; subst h
   exact ret1_step (v := (vB true)) (by kernel_rfl) (by kernel_rfl) (by kernel_rfl)
 · intro F_wEqPSortS_L0 OK_wEqPSortS_L0 p0 p1 r h
   refine acalls_of_fn trwEqPSortS (Nat.le_of_ble_eq_true rfl) (by simp) ?_
   show avc Try.prog acwEqPSortS (qwEqPSortS _) ⟨[(0, (.d (.sl 11 (p0.map cGPSort)))), (1, (.d (.sl 11 (p1.map cGPSort))))], []⟩
   delta acwEqPSortS
   refine so ?_
   let a0 : St := ⟨[(4, (vB false)), (0, (.d (.sl 11 (p0.map cGPSort)))), (1, (.d (.sl 11 (p1.map cGPSort))))], []⟩
   refine st 1 a0 (nx (si (so ?_)))
   let a1 : St := a0.p [(6, (.d (.sl 11 (p0.map cGPSort))))]
   refine st 1 a1 (ps (vI (p0.length : Int)) (vop_len (sz := 11) (l := p0) (f := cGPSort) (by kernel_rfl) (by kernel_rfl)) ?_)
   let a2 : St := a1.p [(8, (.d (.sl 11 (p1.map cGPSort)))), (7, (vI (p0.length : Int)))]
   refine st 1 a2 (ps (vI (p1.length : Int)) (vop_len (sz := 11) (l := p1) (f := cGPSort) (by kernel_rfl) (by kernel_rfl)) ?_)
   let a3 : St := a2.p [(10, (vB (!decide ((p0.length : Int) = (p1.length : Int))))), (9, (vI (p1.length : Int)))]
   refine st 1 a3 (nx ?_)
   refine cd h (fun h => ?_) fun h => ?_
   refine so ?_
   let a4 : St := a3.p [(4, (vB false))]
   refine st 1 a4 (nx (ri (tr ?_)))
   injection h with h; subst h
   exact ret1_step (v := (vB false)) (by kernel_rfl) (by kernel_rfl) (by kernel_rfl)
   refine ki (xi (si (so ?_)))
   let a5 : St := a3.p [(5, (vI 0))]
   exact st 1 a5 (nx (bi (loop_go (s' := stwEqPSortS_L0 p0 p1 0) (wr [] (es (es (es er_nil))) br_nil) (OK_wEqPSortS_L0 p0 p1 0 _ h))))
 · intro F_wEqPSort F_wEqPSortS_L0 OK_wEqPSort OK_wEqPSortS_L0 p0 p1 x5 r h
   delta acwEqPSortS_L0
   refine loop_unroll (si (so ?_))
   let a6 : St := (stwEqPSortS_L0 p0 p1 x5).p [(12, (.d (.sl 11 (p0.map cGPSort)))), (11, (vI x5))]
   refine st 2 a6 (ps (vI (p0.length : Int)) (vop_len (sz := 11) (l := p0) (f := cGPSort) (by kernel_rfl) (by kernel_rfl)) ?_)
   let a7 : St := a6.p [(14, (vB (decide (x5 < (p0.length : Int))))), (13, (vI (p0.length : Int)))]
   refine st 1 a7 (nx ?_)
   refine cd h (fun h => ?_) fun h => ?_
   refine ki (xi (si (bi (si (dops_in ?_)))))
   let a8 : St := a7.p [(18, (vI x5)), (17, (.d (.sl 11 (p0.map cGPSort))))]
   refine dsts_ok 2 (s' := a8) (by kernel_rfl) (dv_step (m := idx p0 x5) (v' := fun y => (.rp (oGPSort y))) h rfl rfl (fun y hy => vop_ia (l := p0) (f := cGPSort) (g := oGPSort) (k := .i64) hy cGPSort_eq (by kernel_rfl) (by kernel_rfl) (by kernel_rfl)) ?_)
   clear h; intro y1 h
   let a9 : St := a8.p [(22, (vI x5)), (21, (.d (.sl 11 (p1.map cGPSort)))), (20, (vGPSort y1)), (19, (.rp (oGPSort y1)))]
   refine dsts_ok 3 (s' := a9) (by kernel_rfl) (dv_step (m := idx p1 x5) (v' := fun y => (.rp (oGPSort y))) h rfl rfl (fun y hy => vop_ia (l := p1) (f := cGPSort) (g := oGPSort) (k := .i64) hy cGPSort_eq (by kernel_rfl) (by kernel_rfl) (by kernel_rfl)) ?_)
   clear h; intro y2 h
   let a10 : St := a9.p [(24, (vGPSort y2)), (23, (.rp (oGPSort y2)))]
   refine dsts_ok 1 (s' := a10) (by kernel_rfl) (dcall_step (m := F_wEqPSort y1 y2) (args := [(vGPSort y1), (vGPSort y2)]) (v' := (fun y => (vB y))) h (OK_wEqPSort y1 y2) (by kernel_rfl) (by kernel_rfl) (fun _ => rfl) ?_)
   clear h; intro y3 h
   let a11 : St := a10.p [(26, (vB (!y3))), (25, (vB y3))]
   refine dsts_ok 1 (s' := a11) (by kernel_rfl) (dnil_in (by kernel_rfl) (by kernel_rfl) (xi ?_))
   refine cd h (fun h => ?_) fun h => ?_
   refine so ?_
   let a12 : St := a11.p [(4, (vB false))]
   refine st 1 a12 (nx (ri (br (tr (tr (br (tr ?_)))))))
   injection h with h; subst h
   exact ret1_step (v := (vB false)) (by kernel_rfl) (by kernel_rfl) (by kernel_rfl)
   refine ki (bn (xi (oi ?_)))
   let a13 : St := a11.p [(5, (vI (IntKind.wrap .i64 (x5 + 1)))), (16, (vI (IntKind.wrap .i64 (x5 + 1)))), (15, (vI x5))]
   exact st 3 a13 (ni (loop_back (s' := stwEqPSortS_L0 p0 p1 (IntKind.wrap .i64 (x5 + 1))) (wr [] (es (es (es er_nil))) br_nil) (OK_wEqPSortS_L0 p0 p1 (IntKind.wrap .i64 (x5 + 1)) _ h)))
   refine ei (te (te (bh (xi (so ?_)))))
   let a14 : St := a7.p [(4, (vB true))]
   refine st 1 a14 (nx (ri ?_))
   injection h with h; subst h
   exact ret1_step (v := (vB true)) (by kernel_rfl) (by kernel_rfl) (by kernel_rfl)
 · intro F_wEqPExprS_L0 OK_wEqPExprS_L0 p0 p1 r h
   refine acalls_of_fn trwEqPExprS (Nat.le_of_ble_eq_true rfl) (by simp) ?_
   show avc Try.prog acwEqPExprS (qwEqPExprS _) ⟨[(0, (.d (.sl 10 (p0.map cGPExpr)))), (1, (.d (.sl 10 (p1.map cGPExpr))))], []⟩
   delta acwEqPExprS
   refine so ?_
   let a0 : St := ⟨[(4, (vB false)), (0, (.d (.sl 10 (p0.map cGPExpr)))), (1, (.d (.sl 10 (p1.map cGPExpr))))], []⟩
   refine st 1 a0 (nx (si (so ?_)))
   let a1 : St := a0.p [(6, (.d (.sl 10 (p0.map cGPExpr))))]
   refine st 1 a1 (ps (vI (p0.length : Int)) (vop_len (sz := 10) (l := p0) (f := cGPExpr) (by kernel_rfl) (by kernel_rfl)) ?_)
   let a2 : St := a1.p [(8, (.d (.sl 10 (p1.map cGPExpr)))), (7, (vI (p0.length : Int)))]
   refine st 1 a2 (ps (vI (p1.length : Int)) (vop_len (sz := 10) (l := p1) (f := cGPExpr) (by kernel_rfl) (by kernel_rfl)) ?_)
   let a3 : St := a2.p [(10, (vB (!decide ((p0.length : Int) = (p1.length : Int))))), (9, (vI (p1.length : Int)))]
   refine st 1 a3 (nx ?_)
   refine cd h (fun h => ?_) fun h => ?_
   refine so ?_
   let a4 : St := a3.p [(4, (vB false))]
   refine st 1 a4 (nx (ri (tr ?_)))
   injection h with h; subst h
   exact ret1_step (v := (vB false)) (by kernel_rfl) (by kernel_rfl) (by kernel_rfl)
   refine ki (xi (si (so ?_)))
   let a5 : St := a3.p [(5, (vI 0))]
   exact st 1 a5 (nx (bi (loop_go (s' := stwEqPExprS_L0 p0 p1 0) (wr [] (es (es (es er_nil))) br_nil) (OK_wEqPExprS_L0 p0 p1 0 _ h))))
 · intro F_wEqPExpr F_wEqPExprS_L0 OK_wEqPExpr OK_wEqPExprS_L0 p0 p1 x5 r h
   delta acwEqPExprS_L0
   refine loop_unroll (si (so ?_))
   let a6 : St := (stwEqPExprS_L0 p0 p1 x5).p [(12, (.d (.sl 10 (p0.map cGPExpr)))), (11, (vI x5))]
   refine st 2 a6 (ps (vI (p0.length : Int)) (vop_len (sz := 10) (l := p0) (f := cGPExpr) (by kernel_rfl) (by kernel_rfl)) ?_)
   let a7 : St := a6.p [(14, (vB (decide (x5 < (p0.length : Int))))), (13, (vI (p0.length : Int)))]
   refine st 1 a7 (nx ?_)
   refine cd h (fun h => ?_) fun h => ?_
   refine ki (xi (si (bi (si (dops_in ?_)))))
   let a8 : St := a7.p [(18, (vI x5)), (17, (.d (.sl 10 (p0.map cGPExpr))))]
   refine dsts_ok 2 (s' := a8) (by kernel_rfl) (dv_step (m := idx p0 x5) (v' := fun y => (.rp (oGPExpr y))) h rfl rfl (fun y hy => vop_ia (l := p0) (f := cGPExpr) (g := oGPExpr) (k := .i64) hy cGPExpr_eq (by kernel_rfl) (by kernel_rfl) (by kernel_rfl)) ?_)
   clear h; intro y1 h
   let a9 : St := a8.p [(22, (vI x5)), (21, (.d (.sl 10 (p1.map cGPExpr)))), (20, (vGPExpr y1)), (19, (.rp (oGPExpr y1)))]
   refine dsts_ok 3 (s' := a9) (by kernel_rfl) (dv_step (m := idx p1 x5) (v' := fun y => (.rp (oGPExpr y))) h rfl rfl (fun y hy => vop_ia (l := p1) (f := cGPExpr) (g := oGPExpr) (k := .i64) hy cGPExpr_eq (by kernel_rfl) (by kernel_rfl) (by kernel_rfl)) ?_)
   clear h; intro y2 h
   let a10 : St := a9.p [(24, (vGPExpr y2)), (23, (.rp (oGPExpr y2)))]
   refine dsts_ok 1 (s' := a10) (by kernel_rfl) (dcall_step (m := F_wEqPExpr y1 y2) (args := [(vGPExpr y1), (vGPExpr y2)]) (v' := (fun y => (vB y))) h (OK_wEqPExpr y1 y2) (by kernel_rfl) (by kernel_rfl) (fun _ => rfl) ?_)
   clear h; intro y3 h
   let a11 : St := a10.p [(26, (vB (!y3))), (25, (vB y3))]
   refine dsts_ok 1 (s' := a11) (by kernel_rfl) (dnil_in (by kernel_rfl) (by kernel_rfl) (xi ?_))
   refine cd h (fun h => ?_) fun h => ?_
   refine so ?_
   let a12 : St := a11.p [(4, (vB false))]
   refine st 1 a12 (nx (ri (br (tr (tr (br (tr ?_)))))))
   injection h with h; subst h
   exact ret1_step (v := (vB false)) (by kernel_rfl) (by kernel_rfl) (by kernel_rfl)
   refine ki (bn (xi (oi ?_)))
   let a13 : St := a11.p [(5, (vI (IntKind.wrap .i64 (x5 + 1)))), (16, (vI (IntKind.wrap .i64 (x5 + 1)))), (15, (vI x5))]
   exact st 3 a13 (ni (loop_back (s' := stwEqPExprS_L0 p0 p1 (IntKind.wrap .i64 (x5 + 1))) (wr [] (es (es (es er_nil))) br_nil) (OK_wEqPExprS_L0 p0 p1 (IntKind.wrap .i64 (x5 + 1)) _ h)))
   refine ei (te (te (bh (xi (so ?_)))))
   let a14 : St := a7.p [(4, (vB true))]
   refine st 1 a14 (nx (ri ?_))
   injection h with h; subst h
   exact ret1_step (v := (vB true)) (by kernel_rfl) (by kernel_rfl) (by kernel_rfl)
 · intro F_wEqPExprSS_L0 OK_wEqPExprSS_L0 p0 p1 r h
   refine acalls_of_fn trwEqPExprSS (Nat.le_of_ble_eq_true rfl) (by simp) ?_
   show avc Try.prog acwEqPExprSS (qwEqPExprSS _) ⟨[(0, (.d (.sl 1 (p0.map (cSl 10 cGPExpr))))), (1, (.d (.sl 1 (p1.map (cSl 10 cGPExpr)))))], []⟩
   delta acwEqPExprSS
   refine so ?_
   let a0 : St := ⟨[(4, (vB false)), (0, (.d (.sl 1 (p0.map (cSl 10 cGPExpr))))), (1, (.d (.sl 1 (p1.map (cSl 10 cGPExpr)))))], []⟩
   refine st 1 a0 (nx (si (so ?_)))
   let a1 : St := a0.p [(6, (.d (.sl 1 (p0.map (cSl 10 cGPExpr)))))]
   refine st 1 a1 (ps (vI (p0.length : Int)) (vop_len (sz := 1) (l := p0) (f := (cSl 10 cGPExpr)) (by kernel_rfl) (by kernel_rfl)) ?_)
   let a2 : St := a1.p [(8, (.d (.sl 1 (p1.map (cSl 10 cGPExpr))))), (7, (vI (p0.length : Int)))]
   refine st 1 a2 (ps (vI (p1.length : Int)) (vop_len (sz := 1) (l := p1) (f := (cSl 10 cGPExpr)) (by kernel_rfl) (by kernel_rfl)) ?_)
   let a3 : St := a2.p [(10, (vB (!decide ((p0.length : Int) = (p1.length : Int))))), (9, (vI (p1.length : Int)))]
   refine st 1 a3 (nx ?_)
   refine cd h (fun h => ?_) fun h => ?_
   refine so ?_
   let a4 : St := a3.p [(4, (vB false))]
   refine st 1 a4 (nx (ri (tr ?_)))
   injection h with h; subst h
   exact ret1_step (v := (vB false)) (by kernel_rfl) (by kernel_rfl) (by kernel_rfl)
   refine ki (xi (si (so ?_)))
   let a5 : St := a3.p [(5, (vI 0))]
   exact st 1 a5 (nx (bi (loop_go (s' := stwEqPExprSS_L0 p0 p1 0) (wr [] (es (es (es er_nil))) br_nil) (OK_wEqPExprSS_L0 p0 p1 0 _ h))))
 · intro F_wEqPExprS F_wEqPExprSS_L0 OK_wEqPExprS OK_wEqPExprSS_L0 p0 p1 x5 r h
   delta acwEqPExprSS_L0
   refine loop_unroll (si (so ?_))
   let a6 : St := (stwEqPExprSS_L0 p0 p1 x5).p [(12, (.d (.sl 1 (p0.map (cSl 10 cGPExpr))))), (11, (vI x5))]
   refine st 2 a6 (ps (vI (p0.length : Int)) (vop_len (sz := 1) (l := p0) (f := (cSl 10 cGPExpr)) (by kernel_rfl) (by kernel_rfl)) ?_)
   let a7 : St := a6.p [(14, (vB (decide (x5 < (p0.length : Int))))), (13, (vI (p0.length : Int)))]
   refine st 1 a7 (nx ?_)
   refine cd h (fun h => ?_) fun h => ?_
   refine ki (xi (si (bi (si (dops_in ?_)))))
   let a8 : St := a7.p [(18, (vI x5)), (17, (.d (.sl 1 (p0.map (cSl 10 cGPExpr)))))]
   refine dsts_ok 2 (s' := a8) (by kernel_rfl) (dv_step (m := idx p0 x5) (v' := fun y => (.rp [(.sl 10 (y.map cGPExpr))])) h rfl rfl (fun y hy => vop_ia (l := p0) (f := (cSl 10 cGPExpr)) (g := (cSl 10 cGPExpr)) (k := .i64) hy (fun _ => rfl) (by kernel_rfl) (by kernel_rfl) (by kernel_rfl)) ?_)
   clear h; intro y1 h
   let a9 : St := a8.p [(22, (vI x5)), (21, (.d (.sl 1 (p1.map (cSl 10 cGPExpr))))), (20, (.d (.sl 10 (y1.map cGPExpr)))), (19, (.rp [(.sl 10 (y1.map cGPExpr))]))]
   refine dsts_ok 3 (s' := a9) (by kernel_rfl) (dv_step (m := idx p1 x5) (v' := fun y => (.rp [(.sl 10 (y.map cGPExpr))])) h rfl rfl (fun y hy => vop_ia (l := p1) (f := (cSl 10 cGPExpr)) (g := (cSl 10 cGPExpr)) (k := .i64) hy (fun _ => rfl) (by kernel_rfl) (by kernel_rfl) (by kernel_rfl)) ?_)
   clear h; intro y2 h
   let a10 : St := a9.p [(24, (.d (.sl 10 (y2.map cGPExpr)))), (23, (.rp [(.sl 10 (y2.map cGPExpr))]))]
   refine dsts_ok 1 (s' := a10) (by kernel_rfl) (dcall_step (m := F_wEqPExprS y1 y2) (args := [(.d (.sl 10 (y1.map cGPExpr))), (.d (.sl 10 (y2.map cGPExpr)))]) (v' := (fun y => (vB y))) h (OK_wEqPExprS y1 y2) (by kernel_rfl) (by kernel_rfl) (fun _ => rfl) ?_)
   clear h; intro y3 h
   let a11 : St := a10.p [(26, (vB (!y3))), (25, (vB y3))]
   refine dsts_ok 1 (s' := a11) (by kernel_rfl) (dnil_in (by kernel_rfl) (by kernel_rfl) (xi ?_))
   refine cd h (fun h => ?_) fun h => ?_
   refine so ?_
   let a12 : St := a11.p [(4, (vB false))]
   refine st 1 a12 (nx (ri (br (tr (tr (br (tr ?_)))))))
   injection h with h; subst h
   exact ret1_step (v := (vB false)) (by kernel_rfl) (by kernel_rfl) (by kernel_rfl)
   refine ki (bn (xi (oi ?_)))
   let a13 : St := a11.p [(5, (vI (IntKind.wrap .i64 (x5 + 1)))), (16, (vI (IntKind.wrap .i64 (x5 + 1)))), (15, (vI x5))]
   exact st 3 a13 (ni (loop_back (s' := stwEqPExprSS_L0 p0 p1 (IntKind.wrap .i64 (x5 + 1))) (wr [] (es (es (es er_nil))) br_nil) (OK_wEqPExprSS_L0 p0 p1 (IntKind.wrap .i64 (x5 + 1)) _ h)))
   refine ei (te (te (bh (xi (so ?_)))))
   let a14 : St := a7.p [(4, (vB true))]
   refine st 1 a14 (nx (ri ?_))
   injection h with h; subst h
   exact ret1_step (v := (vB true)) (by kernel_rfl) (by kernel_rfl) (by kernel_rfl)
theorem OK_wEqPSort (p0 : GPSort) (p1 : GPSort) : FOk Try.prog 51 [(vGPSort p0), (vGPSort p1)] (fun y => (vB y)) (wEqPSort p0 p1) := fun r h => (OKs_wEqPSort).1 p0 p1 r h
theorem OK_wEqPExpr (p0 : GPExpr) (p1 : GPExpr) : FOk Try.prog 9 [(vGPExpr p0), (vGPExpr p1)] (fun y => (vB y)) (wEqPExpr p0 p1) := fun r h => (OKs_wEqPSort).2.1 p0 p1 r h
theorem OK_wEqPlanS (p0 : (List GPlan)) (p1 : (List GPlan)) : FOk Try.prog 26 [(.d (.sl 8 (p0.map cGPlan))), (.d (.sl 8 (p1.map cGPlan)))] (fun y => (vB y)) (wEqPlanS p0 p1) := fun r h => (OKs_wEqPSort).2.2.1 p0 p1 r h
theorem OK_wEqPlanS_L0 (p0 : (List GPlan)) (p1 : (List GPlan)) (x5 : Int) (r : Bool) (h : wEqPlanS_L0 p0 p1 x5 = some r) : avc Try.prog acwEqPlanS_L0 (qwEqPlanS_1 r) (stwEqPlanS_L0 p0 p1 x5) := (OKs_wEqPSort).2.2.2.1 p0 p1 x5 r h
theorem OK_wEqPlan (p0 : GPlan) (p1 : GPlan) : FOk Try.prog 14 [(vGPlan p0), (vGPlan p1)] (fun y => (vB y)) (wEqPlan p0 p1) := fun r h => (OKs_wEqPSort).2.2.2.2.1 p0 p1 r h
theorem OK_wEqPSortS (p0 : (List GPSort)) (p1 : (List GPSort)) : FOk Try.prog 39 [(.d (.sl 11 (p0.map cGPSort))), (.d (.sl 11 (p1.map cGPSort)))] (fun y => (vB y)) (wEqPSortS p0 p1) := fun r h => (OKs_wEqPSort).2.2.2.2.2.1 p0 p1 r h
theorem OK_wEqPSortS_L0 (p0 : (List GPSort)) (p1 : (List GPSort)) (x5 : Int) (r : Bool) (h : wEqPSortS_L0 p0 p1 x5 = some r) : avc Try.prog acwEqPSortS_L0 (qwEqPSortS_1 r) (stwEqPSortS_L0 p0 p1 x5) := (OKs_wEqPSort).2.2.2.2.2.2.1 p0 p1 x5 r h
theorem OK_wEqPExprS (p0 : (List GPExpr)) (p1 : (List GPExpr)) : FOk Try.prog 25 [(.d (.sl 10 (p0.map cGPExpr))), (.d (.sl 10 (p1.map cGPExpr)))] (fun y => (vB y)) (wEqPExprS p0 p1) := fun r h => (OKs_wEqPSort).2.2.2.2.2.2.2.1 p0 p1 r h
theorem OK_wEqPExprS_L0 (p0 : (List GPExpr)) (p1 : (List GPExpr)) (x5 : Int) (r : Bool) (h : wEqPExprS_L0 p0 p1 x5 = some r) : avc Try.prog acwEqPExprS_L0 (qwEqPExprS_1 r) (stwEqPExprS_L0 p0 p1 x5) := (OKs_wEqPSort).2.2.2.2.2.2.2.2.1 p0 p1 x5 r h
theorem OK_wEqPExprSS (p0 : (List (List GPExpr))) (p1 : (List (List GPExpr))) : FOk Try.prog 38 [(.d (.sl 1 (p0.map (cSl 10 cGPExpr)))), (.d (.sl 1 (p1.map (cSl 10 cGPExpr))))] (fun y => (vB y)) (wEqPExprSS p0 p1) := fun r h => (OKs_wEqPSort).2.2.2.2.2.2.2.2.2.1 p0 p1 r h
theorem OK_wEqPExprSS_L0 (p0 : (List (List GPExpr))) (p1 : (List (List GPExpr))) (x5 : Int) (r : Bool) (h : wEqPExprSS_L0 p0 p1 x5 = some r) : avc Try.prog acwEqPExprSS_L0 (qwEqPExprSS_1 r) (stwEqPExprSS_L0 p0 p1 x5) := (OKs_wEqPSort).2.2.2.2.2.2.2.2.2.2 p0 p1 x5 r h
theorem OK_wSzIntS (p0 : (List Int)) (p1 : Int) : FOk Try.prog 27 [(.d (.sl 1 (p0.map cI))), (vI p1)] (fun y => (vI y)) (wSzIntS p0 p1) := by
 intro r h
 rw [wSzIntS] at h
 refine acalls_of_fn trwSzIntS (Nat.le_of_ble_eq_true rfl) (by simp) ?_
 show avc Try.prog acwSzIntS (qwSzIntS _) ⟨[(0, (.d (.sl 1 (p0.map cI)))), (1, (vI p1))], []⟩
 delta acwSzIntS
 refine so ?_
 let a0 : St := ⟨[(4, (vI 0)), (0, (.d (.sl 1 (p0.map cI)))), (1, (vI p1))], []⟩
 refine st 1 a0 (nx (so ?_))
 let a1 : St := a0.p [(6, (.d (.sl 1 (p0.map cI)))), (5, (vI p1))]
 refine st 2 a1 (ps (vI (p0.length : Int)) (vop_len (sz := 1) (l := p0) (f := cI) (by kernel_rfl) (by kernel_rfl)) ?_)
 let a2 : St := a1.p [(1, (vI (IntKind.wrap .i64 (p1 - (p0.length : Int))))), (8, (vI (IntKind.wrap .i64 (p1 - (p0.length : Int))))), (7, (vI (p0.length : Int)))]
 refine st 2 a2 (nx (si (so ?_)))
 let a3 : St := a2.p [(10, (vB (decide ((IntKind.wrap .i64 (p1 - (p0.length : Int))) < 0)))), (9, (vI (IntKind.wrap .i64 (p1 - (p0.length : Int)))))]
 refine st 2 a3 (nx ?_)
 refine cd h (fun h => ?_) fun h => ?_
 refine so ?_
 let a4 : St := a3.p [(4, (vI (-1)))]
 refine st 1 a4 (nx (ri (tr ?_)))
 injection h with h; subst h
 exact ret1_step (v := (vI (-1))) (by kernel_rfl) (by kernel_rfl) (by kernel_rfl)
 refine ki (xi (so ?_))
 let a5 : St := a3.p [(4, (vI (IntKind.wrap .i64 (p1 - (p0.length : Int))))), (11, (vI (IntKind.wrap .i64 (p1 - (p0.length : Int)))))]
 refine st 2 a5 (nx (ri ?_))
 injection h with h; subst h
 exact ret1_step (v := (vI (IntKind.wrap .i64 (p1 - (p0.length : Int))))) (by kernel_rfl) (by kernel_rfl) (by kernel_rfl)
theorem OKs_wSzStringS_L0 (p0 : (List (List UInt8))) : (∀ (x1 : Int) (x5 : Int) (r : Int), wSzStringS_L0 p0 x1 x5 = some r → avc Try.prog acwSzStringS_L0 (qwSzStringS_1 r) (stwSzStringS_L0 p0 x1 x5)) := by
 refine wSzStringS_L0.partial_correctness p0 (fun x1 x5 r => avc Try.prog acwSzStringS_L0 (qwSzStringS_1 r) (stwSzStringS_L0 p0 x1 x5)) ?_
 · intro F_wSzStringS_L0 OK_wSzStringS_L0 x1 x5 r h
   delta acwSzStringS_L0
   refine loop_unroll (si (so ?_))
   let a6 : St := (stwSzStringS_L0 p0 x1 x5).p [(13, (.d (.sl 1 (p0.map cStr)))), (12, (vI x5))]
   refine st 2 a6 (ps (vI (p0.length : Int)) (vop_len (sz := 1) (l := p0) (f := cStr) (by kernel_rfl) (by kernel_rfl)) ?_)
   let a7 : St := a6.p [(15, (vB (decide (x5 < (p0.length : Int))))), (14, (vI (p0.length : Int)))]
   refine st 1 a7 (nx ?_)
   refine cd h (fun h => ?_) fun h => ?_
   refine ki (xi (si (bi (so ?_))))
   let a8 : St := a7.p [(20, (vI x5)), (19, (.d (.sl 1 (p0.map cStr)))), (18, (vI x1))]
   refine st 3 a8 (vs (fun (y : (List UInt8)) => (.rp [(.s (bs y))])) h (fun y hy => vop_ia (l := p0) (f := cStr) (g := cStr) (k := .i64) hy (fun _ => rfl) (by kernel_rfl) (by kernel_rfl) (by kernel_rfl)) fun y1 h => ?_)
   let a9 : St := a8.p [(1, (vI (IntKind.wrap .i64 (x1 - (y1.length : Int))))), (24, (vI (IntKind.wrap .i64 (x1 - (y1.length : Int))))), (23, (vI (y1.length : Int))), (22, (vS y1)), (21, (.rp [(.s (bs y1))]))]
   refine st 4 a9 (nx (so ?_))
   let a10 : St := a9.p [(26, (vB (decide ((IntKind.wrap .i64 (x1 - (y1.length : Int))) < 0)))), (25, (vI (IntKind.wrap .i64 (x1 - (y1.length : Int)))))]
   refine st 2 a10 (nx ?_)
   refine cd h (fun h => ?_) fun h => ?_
   refine so ?_
   let a11 : St := a10.p [(4, (vI (-1)))]
   refine st 1 a11 (nx (ri (br (tr (tr (br (tr ?_)))))))
   injection h with h; subst h
   exact ret1_step (v := (vI (-1))) (by kernel_rfl) (by kernel_rfl) (by kernel_rfl)
   refine ki (bn (xi (oi ?_)))
   let a12 : St := a10.p [(5, (vI (IntKind.wrap .i64 (x5 + 1)))), (17, (vI (IntKind.wrap .i64 (x5 + 1)))), (16, (vI x5))]
   exact st 3 a12 (ni (loop_back (s' := stwSzStringS_L0 p0 (IntKind.wrap .i64 (x1 - (y1.length : Int))) (IntKind.wrap .i64 (x5 + 1))) (wr [] (es (es (es er_nil))) br_nil) (OK_wSzStringS_L0 (IntKind.wrap .i64 (x1 - (y1.length : Int))) (IntKind.wrap .i64 (x5 + 1)) _ h)))
   refine ei (te (te (bh (xi (so ?_)))))
   let a13 : St := a7.p [(4, (vI x1)), (27, (vI x1))]
   refine st 2 a13 (nx (ri ?_))
   injection h with h; subst h
   exact ret1_step (v := (vI x1)) (by kernel_rfl) (by kernel_rfl) (by kernel_rfl)
theorem OK_wSzStringS_L0 (p0 : (List (List UInt8))) (x1 : Int) (x5 : Int) (r : Int) (h : wSzStringS_L0 p0 x1 x5 = some r) : avc Try.prog acwSzStringS_L0 (qwSzStringS_1 r) (stwSzStringS_L0 p0 x1 x5) := (OKs_wSzStringS_L0 p0) x1 x5 r h
theorem OK_wSzStringS (p0 : (List (List UInt8))) (p1 : Int) : FOk Try.prog 30 [(.d (.sl 1 (p0.map cStr))), (vI p1)] (fun y => (vI y)) (wSzStringS p0 p1) := by
 intro r h
 rw [wSzStringS] at h
 refine acalls_of_fn trwSzStringS (Nat.le_of_ble_eq_true rfl) (by simp) ?_
 show avc Try.prog acwSzStringS (qwSzStringS _) ⟨[(0, (.d (.sl 1 (p0.map cStr)))), (1, (vI p1))], []⟩
 delta acwSzStringS
 refine so ?_
 let a0 : St := ⟨[(4, (vI 0)), (0, (.d (.sl 1 (p0.map cStr)))), (1, (vI p1))], []⟩
 refine st 1 a0 (nx (so ?_))
 let a1 : St := a0.p [(7, (.d (.sl 1 (p0.map cStr)))), (6, (vI p1))]
 refine st 2 a1 (ps (vI (p0.length : Int)) (vop_len (sz := 1) (l := p0) (f := cStr) (by kernel_rfl) (by kernel_rfl)) ?_)
 let a2 : St := a1.p [(1, (vI (IntKind.wrap .i64 (p1 - (p0.length : Int))))), (9, (vI (IntKind.wrap .i64 (p1 - (p0.length : Int))))), (8, (vI (p0.length : Int)))]
 refine st 2 a2 (nx (si (so ?_)))
 let a3 : St := a2.p [(11, (vB (decide ((IntKind.wrap .i64 (p1 - (p0.length : Int))) < 0)))), (10, (vI (IntKind.wrap .i64 (p1 - (p0.length : Int)))))]
 refine st 2 a3 (nx ?_)
 refine cd h (fun h => ?_) fun h => ?_
 refine so ?_
 let a4 : St := a3.p [(4, (vI (-1)))]
 refine st 1 a4 (nx (ri (tr ?_)))
 injection h with h; subst h
 exact ret1_step (v := (vI (-1))) (by kernel_rfl) (by kernel_rfl) (by kernel_rfl)
 refine ki (xi (si (so ?_)))
 let a5 : St := a3.p [(5, (vI 0))]
 exact st 1 a5 (nx (bi (loop_go (s' := stwSzStringS_L0 p0 (IntKind.wrap .i64 (p1 - (p0.length : Int))) 0) (wr [] (es (es (es er_nil))) br_nil) (OK_wSzStringS_L0 p0 (IntKind.wrap .i64 (p1 - (p0.length : Int))) 0 _ h))))
theorem OK_wSzValue (p0 : GValue) (p1 : Int) : FOk Try.prog 15 [(vGValue p0), (vI p1)] (fun y => (vI y)) (wSzValue p0 p1) := by
 intro r h
 rw [wSzValue] at h
 refine acalls_of_fn trwSzValue (Nat.le_of_ble_eq_true rfl) (by simp) ?_
 show avc Try.prog acwSzValue (qwSzValue _) ⟨[(0, (vGValue p0)), (1, (vI p1))], []⟩
 delta acwSzValue
 refine so ?_
 let a0 : St := ⟨[(4, (vI 0)), (2, (.ptr 2 0)), (0, (vGValue p0)), (1, (vI p1))], [(2, bGValue p0)]⟩
 refine st 2 a0 (nx (so ?_))
 let a1 : St := a0.p [(1, (vI (IntKind.wrap .i64 (p1 - (p0.text.length : Int))))), (9, (vI (IntKind.wrap .i64 (p1 - (p0.text.length : Int))))), (8, (vI (p0.text.length : Int))), (7, (vS p0.text)), (6, (.ptr 2 2)), (5, (vI p1))]
 refine st 6 a1 (nx (si (so ?_)))
 let a2 : St := a1.p [(11, (vB (decide ((IntKind.wrap .i64 (p1 - (p0.text.length : Int))) < 0)))), (10, (vI (IntKind.wrap .i64 (p1 - (p0.text.length : Int)))))]
 refine st 2 a2 (nx ?_)
 refine cd h (fun h => ?_) fun h => ?_
 refine so ?_
 let a3 : St := a2.p [(4, (vI (-1)))]
 refine st 1 a3 (nx (ri (tr ?_)))
 injection h with h; subst h
 exact ret1_step (v := (vI (-1))) (by kernel_rfl) (by kernel_rfl) (by kernel_rfl)
 refine ki (xi (so ?_))
 let a4 : St := a2.p [(4, (vI (IntKind.wrap .i64 (p1 - (p0.text.length : Int))))), (12, (vI (IntKind.wrap .i64 (p1 - (p0.text.length : Int)))))]
 refine st 2 a4 (nx (ri ?_))
 injection h with h; subst h
 exact ret1_step (v := (vI (IntKind.wrap .i64 (p1 - (p0.text.length : Int))))) (by kernel_rfl) (by kernel_rfl) (by kernel_rfl)
theorem OKs_wSzPSort : (∀ (p0 : GPSort) (p1 : Int) (r : Int), wSzPSort p0 p1 = some r → ACalls Try.prog 49 [(vGPSort p0), (vI p1)] [] fun x _ => x = (fun y => (vI y)) r) ∧ (∀ (p0 : GPExpr) (p1 : Int) (r : Int), wSzPExpr p0 p1 = some r → ACalls Try.prog 5 [(vGPExpr p0), (vI p1)] [] fun x _ => x = (fun y => (vI y)) r) ∧ (∀ (p0 : (List GPlan)) (p1 : Int) (r : Int), wSzPlanS p0 p1 = some r → ACalls Try.prog 17 [(.d (.sl 8 (p0.map cGPlan))), (vI p1)] [] fun x _ => x = (fun y => (vI y)) r) ∧ (∀ (p0 : (List GPlan)) (x1 : Int) (x5 : Int) (r : Int), wSzPlanS_L0 p0 x1 x5 = some r → avc Try.prog acwSzPlanS_L0 (qwSzPlanS_1 r) (stwSzPlanS_L0 p0 x1 x5)) ∧ (∀ (p0 : GPlan) (p1 : Int) (r : Int), wSzPlan p0 p1 = some r → ACalls Try.prog 10 [(vGPlan p0), (vI p1)] [] fun x _ => x = (fun y => (vI y)) r) ∧ (∀ (p0 : (List GPSort)) (p1 : Int) (r : Int), wSzPSortS p0 p1 = some r → ACalls Try.prog 29 [(.d (.sl 11 (p0.map cGPSort))), (vI p1)] [] fun x _ => x = (fun y => (vI y)) r) ∧ (∀ (p0 : (List GPSort)) (x1 : Int) (x5 : Int) (r : Int), wSzPSortS_L0 p0 x1 x5 = some r → avc Try.prog acwSzPSortS_L0 (qwSzPSortS_1 r) (stwSzPSortS_L0 p0 x1 x5)) ∧ (∀ (p0 : (List GPExpr)) (p1 : Int) (r : Int), wSzPExprS p0 p1 = some r → ACalls Try.prog 16 [(.d (.sl 10 (p0.map cGPExpr))), (vI p1)] [] fun x _ => x = (fun y => (vI y)) r) ∧ (∀ (p0 : (List GPExpr)) (x1 : Int) (x5 : Int) (r : Int), wSzPExprS_L0 p0 x1 x5 = some r → avc Try.prog acwSzPExprS_L0 (qwSzPExprS_1 r) (stwSzPExprS_L0 p0 x1 x5)) ∧ (∀ (p0 : (List (List GPExpr))) (p1 : Int) (r : Int), wSzPExprSS p0 p1 = some r → ACalls Try.prog 28 [(.d (.sl 1 (p0.map (cSl 10 cGPExpr)))), (vI p1)] [] fun x _ => x = (fun y => (vI y)) r) ∧ (∀ (p0 : (List (List GPExpr))) (x1 : Int) (x5 : Int) (r : Int), wSzPExprSS_L0 p0 x1 x5 = some r → avc Try.prog acwSzPExprSS_L0 (qwSzPExprSS_1 r) (stwSzPExprSS_L0 p0 x1 x5)) := by
 refine wSzPSort.mutual_partial_correctness (fun p0 p1 r => ACalls Try.prog 49 [(vGPSort p0), (vI p1)] [] fun x _ => x = (fun y => (vI y)) r) (fun p0 p1 r => ACalls Try.prog 5 [(vGPExpr p0), (vI p1)] [] fun x _ => x = (fun y => (vI y)) r) (fun p0 p1 r => ACalls Try.prog 17 [(.d (.sl 8 (p0.map cGPlan))), (vI p1)] [] fun x _ => x = (fun y => (vI y)) r) (fun p0 x1 x5 r => avc Try.prog acwSzPlanS_L0 (qwSzPlanS_1 r) (stwSzPlanS_L0 p0 x1 x5)) (fun p0 p1 r => ACalls Try.prog 10 [(vGPlan p0), (vI p1)] [] fun x _ => x = (fun y => (vI y)) r) (fun p0 p1 r => ACalls Try.prog 29 [(.d (.sl 11 (p0.map cGPSort))), (vI p1)] [] fun x _ => x = (fun y => (vI y)) r) (fun p0 x1 x5 r => avc Try.prog acwSzPSortS_L0 (qwSzPSortS_1 r) (stwSzPSortS_L0 p0 x1 x5)) (fun p0 p1 r => ACalls Try.prog 16 [(.d (.sl 10 (p0.map cGPExpr))), (vI p1)] [] fun x _ => x = (fun y => (vI y)) r) (fun p0 x1 x5 r => avc Try.prog acwSzPExprS_L0 (qwSzPExprS_1 r) (stwSzPExprS_L0 p0 x1 x5)) (fun p0 p1 r => ACalls Try.prog 28 [(.d (.sl 1 (p0.map (cSl 10 cGPExpr)))), (vI p1)] [] fun x _ => x = (fun y => (vI y)) r) (fun p0 x1 x5 r => avc Try.prog acwSzPExprSS_L0 (qwSzPExprSS_1 r) (stwSzPExprSS_L0 p0 x1 x5)) ?_ ?_ ?_ ?_ ?_ ?_ ?_ ?_ ?_ ?_ ?_
 · intro F_wSzPExpr OK_wSzPExpr p0 p1 r h
   refine acalls_of_fn trwSzPSort (Nat.le_of_ble_eq_true rfl) (by simp) ?_
   show avc Try.prog acwSzPSort (qwSzPSort _) ⟨[(0, (vGPSort p0)), (1, (vI p1))], []⟩
   delta acwSzPSort
   refine so ?_
   let a0 : St := ⟨[(4, (vI 0)), (2, (.ptr 2 0)), (0, (vGPSort p0)), (1, (vI p1))], [(2, bGPSort p0)]⟩
   refine st 2 a0 (nx (so ?_))
   let a1 : St := a0.p [(7, (vI p1)), (6, (vGPExpr p0.expr)), (5, (.ptr 2 0))]
   refine st 3 a1 (cs h (OK_wSzPExpr p0.expr p1) fun y1 h => ?_)
   let a2 : St := a1.p [(1, (vI y1)), (8, (vI y1))]
   refine st 1 a2 (nx (si (so ?_)))
   let a3 : St := a2.p [(10, (vB (decide (y1 < 0)))), (9, (vI y1))]
   refine st 2 a3 (nx ?_)
   refine cd h (fun h => ?_) fun h => ?_
   refine so ?_
   let a4 : St := a3.p [(4, (vI (-1)))]
   refine st 1 a4 (nx (ri (tr ?_)))
   injection h with h; subst h
   exact ret1_step (v := (vI (-1))) (by kernel_rfl) (by kernel_rfl) (by kernel_rfl)
   refine ki (xi (so ?_))
   let a5 : St := a3.p [(4, (vI y1)), (11, (vI y1))]
   refine st 2 a5 (nx (ri ?_))
   injection h with h; subst h
   exact ret1_step (v := (vI y1)) (by kernel_rfl) (by kernel_rfl) (by kernel_rfl)
 · intro F_wSzPlanS F_wSzPExprS OK_wSzPlanS OK_wSzPExprS p0 p1 r h
   refine acalls_of_fn trwSzPExpr (Nat.le_of_ble_eq_true rfl) (by simp) ?_
   show avc Try.prog acwSzPExpr (qwSzPExpr _) ⟨[(0, (vGPExpr p0)), (1, (vI p1))], []⟩
   delta acwSzPExpr
   refine so ?_
   let a0 : St := ⟨[(4, (vI 0)), (2, (.ptr 2 0)), (0, (vGPExpr p0)), (1, (vI p1))], [(2, bGPExpr p0)]⟩
   refine st 2 a0 (nx (so ?_))
   let a1 : St := a0.p [(7, (vI p1)), (6, (vGValue p0.value)), (5, (.ptr 2 3))]
   refine st 3 a1 (cs h (OK_wSzValue p0.value p1) fun y1 h => ?_)
   let a2 : St := a1.p [(1, (vI y1)), (8, (vI y1))]
   refine st 1 a2 (nx (si (so ?_)))
   let a3 : St := a2.p [(10, (vB (decide (y1 < 0)))), (9, (vI y1))]
   refine st 2 a3 (nx ?_)
   refine cd h (fun h => ?_) fun h => ?_
   refine so ?_
   let a4 : St := a3.p [(4, (vI (-1)))]
   refine st 1 a4 (nx (ri (tr ?_)))
   injection h with h; subst h
   exact ret1_step (v := (vI (-1))) (by kernel_rfl) (by kernel_rfl) (by kernel_rfl)
   refine ki (xi (so ?_))
   let a5 : St := a3.p [(13, (vI y1)), (12, (.d (.sl 10 (p0.kids.map cGPExpr)))), (11, (.ptr 2 8))]
   refine st 3 a5 (cs h (OK_wSzPExprS p0.kids y1) fun y2 h => ?_)
   let a6 : St := a5.p [(1, (vI y2)), (14, (vI y2))]
   refine st 1 a6 (nx (si (so ?_)))
   let a7 : St := a6.p [(16, (vB (decide (y2 < 0)))), (15, (vI y2))]
   refine st 2 a7 (nx ?_)
   refine cd h (fun h => ?_) fun h => ?_
   refine so ?_
   let a8 : St := a7.p [(4, (vI (-1)))]
   refine st 1 a8 (nx (ri (tr ?_)))
   injection h with h; subst h
   exact ret1_step (v := (vI (-1))) (by kernel_rfl) (by kernel_rfl) (by kernel_rfl)
   refine ki (xi (so ?_))
   let a9 : St := a7.p [(19, (vI y2)), (18, (.d (.sl 8 (p0.sub.map cGPlan)))), (17, (.ptr 2 9))]
   refine st 3 a9 (cs h (OK_wSzPlanS p0.sub y2) fun y3 h => ?_)
   let a10 : St := a9.p [(1, (vI y3)), (20, (vI y3))]
   refine st 1 a10 (nx (si (so ?_)))
   let a11 : St := a10.p [(22, (vB (decide (y3 < 0)))), (21, (vI y3))]
   refine st 2 a11 (nx ?_)
   refine cd h (fun h => ?_) fun h => ?_
   refine so ?_
   let a12 : St := a11.p [(4, (vI (-1)))]
   refine st 1 a12 (nx (ri (tr ?_)))
   injection h with h; subst h
   exact ret1_step (v := (vI (-1))) (by kernel_rfl) (by kernel_rfl) (by kernel_rfl)
   refine ki (xi (so ?_))
   let a13 : St := a11.p [(4, (vI y3)), (23, (vI y3))]
   refine st 2 a13 (nx (ri ?_))
   injection h with h; subst h
   exact ret1_step (v := (vI y3)) (by kernel_rfl) (by kernel_rfl) (by kernel_rfl)
 · intro F_wSzPlanS_L0 OK_wSzPlanS_L0 p0 p1 r h
   refine acalls_of_fn trwSzPlanS (Nat.le_of_ble_eq_true rfl) (by simp) ?_
   show avc Try.prog acwSzPlanS (qwSzPlanS _) ⟨[(0, (.d (.sl 8 (p0.map cGPlan)))), (1, (vI p1))], []⟩
   delta acwSzPlanS
   refine so ?_
   let a0 : St := ⟨[(4, (vI 0)), (0, (.d (.sl 8 (p0.map cGPlan)))), (1, (vI p1))], []⟩
   refine st 1 a0 (nx (so ?_))
   let a1 : St := a0.p [(7, (.d (.sl 8 (p0.map cGPlan)))), (6, (vI p1))]
   refine st 2 a1 (ps (vI (p0.length : Int)) (vop_len (sz := 8) (l := p0) (f := cGPlan) (by kernel_rfl) (by kernel_rfl)) ?_)
   let a2 : St := a1.p [(1, (vI (IntKind.wrap .i64 (p1 - (p0.length : Int))))), (9, (vI (IntKind.wrap .i64 (p1 - (p0.length : Int))))), (8, (vI (p0.length : Int)))]
   refine st 2 a2 (nx (si (so ?_)))
   let a3 : St := a2.p [(11, (vB (decide ((IntKind.wrap .i64 (p1 - (p0.length : Int))) < 0)))), (10, (vI (IntKind.wrap .i64 (p1 - (p0.length : Int)))))]
   refine st 2 a3 (nx ?_)
   refine cd h (fun h => ?_) fun h => ?_
   refine so ?_
   let a4 : St := a3.p [(4, (vI (-1)))]
   refine st 1 a4 (nx (ri (tr ?_)))
   injection h with h; subst h
   exact ret1_step (v := (vI (-1))) (by kernel_rfl) (by kernel_rfl) (by kernel_rfl)
   refine ki (xi (si (so ?_)))
   let a5 : St := a3.p [(5, (vI 0))]
   exact st 1 a5 (nx (bi (loop_go (s' := stwSzPlanS_L0 p0 (IntKind.wrap .i64 (p1 - (p0.length : Int))) 0) (wr [] (es (es (es er_nil))) br_nil) (OK_wSzPlanS_L0 p0 (IntKind.wrap .i64 (p1 - (p0.length : Int))) 0 _ h))))
 · intro F_wSzPlanS_L0 F_wSzPlan OK_wSzPlanS_L0 OK_wSzPlan p0 x1 x5 r h
   delta acwSzPlanS_L0
   refine loop_unroll (si (so ?_))
   let a6 : St := (stwSzPlanS_L0 p0 x1 x5).p [(13, (.d (.sl 8 (p0.map cGPlan)))), (12, (vI x5))]
   refine st 2 a6 (ps (vI (p0.length : Int)) (vop_len (sz := 8) (l := p0) (f := cGPlan) (by kernel_rfl) (by kernel_rfl)) ?_)
   let a7 : St := a6.p [(15, (vB (decide (x5 < (p0.length : Int))))), (14, (vI (p0.length : Int)))]
   refine st 1 a7 (nx ?_)
   refine cd h (fun h => ?_) fun h => ?_
   refine ki (xi (si (bi (so ?_))))
   let a8 : St := a7.p [(19, (vI x5)), (18, (.d (.sl 8 (p0.map cGPlan))))]
   refine st 2 a8 (vs (fun (y : GPlan) => (.rp (oGPlan y))) h (fun y hy => vop_ia (l := p0) (f := cGPlan) (g := oGPlan) (k := .i64) hy cGPlan_eq (by kernel_rfl) (by kernel_rfl) (by kernel_rfl)) fun y1 h => ?_)
   let a9 : St := a8.p [(22, (vI x1)), (21, (vGPlan y1)), (20, (.rp (oGPlan y1)))]
   refine st 2 a9 (cs h (OK_wSzPlan y1 x1) fun y2 h => ?_)
   let a10 : St := a9.p [(1, (vI y2)), (23, (vI y2))]
   refine st 1 a10 (nx (so ?_))
   let a11 : St := a10.p [(25, (vB (decide (y2 < 0)))), (24, (vI y2))]
   refine st 2 a11 (nx ?_)
   refine cd h (fun h => ?_) fun h => ?_
   refine so ?_
   let a12 : St := a11.p [(4, (vI (-1)))]
   refine st 1 a12 (nx (ri (br (tr (tr (br (tr ?_)))))))
   injection h with h; subst h
   exact ret1_step (v := (vI (-1))) (by kernel_rfl) (by kernel_rfl) (by kernel_rfl)
   refine ki (bn (xi (oi ?_)))
   let a13 : St := a11.p [(5, (vI (IntKind.wrap .i64 (x5 + 1)))), (17, (vI (IntKind.wrap .i64 (x5 + 1)))), (16, (vI x5))]
   exact st 3 a13 (ni (loop_back (s' := stwSzPlanS_L0 p0 y2 (IntKind.wrap .i64 (x5 + 1))) (wr [] (es (es (es er_nil))) br_nil) (OK_wSzPlanS_L0 p0 y2 (IntKind.wrap .i64 (x5 + 1)) _ h)))
   refine ei (te (te (bh (xi (so ?_)))))
   let a14 : St := a7.p [(4, (vI x1)), (26, (vI x1))]
   refine st 2 a14 (nx (ri ?_))
   injection h with h; subst h
   exact ret1_step (v := (vI x1)) (by kernel_rfl) (by kernel_rfl) (by kernel_rfl)
 · intro F_wSzPSortS F_wSzPExprS F_wSzPExprSS OK_wSzPSortS OK_wSzPExprS OK_wSzPExprSS p0 p1 r h
   refine acalls_of_fn trwSzPlan (Nat.le_of_ble_eq_true rfl) (by simp) ?_
   show avc Try.prog acwSzPlan (qwSzPlan _) ⟨[(0, (vGPlan p0)), (1, (vI p1))], []⟩
   delta acwSzPlan
   refine so ?_
   let a0 : St := ⟨[(4, (vI 0)), (2, (.ptr 2 0)), (0, (vGPlan p0)), (1, (vI p1))], [(2, bGPlan p0)]⟩
   refine st 2 a0 (nx (so ?_))
   let a1 : St := a0.p [(7, (vI p1)), (6, (.d (.sl 1 (p0.tables.map cI)))), (5, (.ptr 2 0))]
   refine st 3 a1 (cs h (OK_wSzIntS p0.tables p1) fun y1 h => ?_)
   let a2 : St := a1.p [(1, (vI y1)), (8, (vI y1))]
   refine st 1 a2 (nx (si (so ?_)))
   let a3 : St := a2.p [(10, (vB (decide (y1 < 0)))), (9, (vI y1))]
   refine st 2 a3 (nx ?_)
   refine cd h (fun h => ?_) fun h => ?_
   refine so ?_
   let a4 : St := a3.p [(4, (vI (-1)))]
   refine st 1 a4 (nx (ri (tr ?_)))
   injection h with h; subst h
   exact ret1_step (v := (vI (-1))) (by kernel_rfl) (by kernel_rfl) (by kernel_rfl)
   refine ki (xi (so ?_))
   let a5 : St := a3.p [(13, (vI y1)), (12, (.d (.sl 1 (p0.on_.map (cSl 10 cGPExpr))))), (11, (.ptr 2 1))]
   refine st 3 a5 (cs h (OK_wSzPExprSS p0.on_ y1) fun y2 h => ?_)
   let a6 : St := a5.p [(1, (vI y2)), (14, (vI y2))]
   refine st 1 a6 (nx (si (so ?_)))
   let a7 : St := a6.p [(16, (vB (decide (y2 < 0)))), (15, (vI y2))]
   refine st 2 a7 (nx ?_)
   refine cd h (fun h => ?_) fun h => ?_
   refine so ?_
   let a8 : St := a7.p [(4, (vI (-1)))]
   refine st 1 a8 (nx (ri (tr ?_)))
   injection h with h; subst h
   exact ret1_step (v := (vI (-1))) (by kernel_rfl) (by kernel_rfl) (by kernel_rfl)
   refine ki (xi (so ?_))
   let a9 : St := a7.p [(19, (vI y2)), (18, (.d (.sl 10 (p0.where_.map cGPExpr)))), (17, (.ptr 2 2))]
   refine st 3 a9 (cs h (OK_wSzPExprS p0.where_ y2) fun y3 h => ?_)
   let a10 : St := a9.p [(1, (vI y3)), (20, (vI y3))]
   refine st 1 a10 (nx (si (so ?_)))
   let a11 : St := a10.p [(22, (vB (decide (y3 < 0)))), (21, (vI y3))]
   refine st 2 a11 (nx ?_)
   refine cd h (fun h => ?_) fun h => ?_
   refine so ?_
   let a12 : St := a11.p [(4, (vI (-1)))]
   refine st 1 a12 (nx (ri (tr ?_)))
   injection h with h; subst h
   exact ret1_step (v := (vI (-1))) (by kernel_rfl) (by kernel_rfl) (by kernel_rfl)
   refine ki (xi (so ?_))
   let a13 : St := a11.p [(25, (vI y3)), (24, (.d (.sl 11 (p0.order.map cGPSort)))), (23, (.ptr 2 3))]
   refine st 3 a13 (cs h (OK_wSzPSortS p0.order y3) fun y4 h => ?_)
   let a14 : St := a13.p [(1, (vI y4)), (26, (vI y4))]
   refine st 1 a14 (nx (si (so ?_)))
   let a15 : St := a14.p [(28, (vB (decide (y4 < 0)))), (27, (vI y4))]
   refine st 2 a15 (nx ?_)
   refine cd h (fun h => ?_) fun h => ?_
   refine so ?_
   let a16 : St := a15.p [(4, (vI (-1)))]
   refine st 1 a16 (nx (ri (tr ?_)))
   injection h with h; subst h
   exact ret1_step (v := (vI (-1))) (by kernel_rfl) (by kernel_rfl) (by kernel_rfl)
   refine ki (xi (so ?_))
   let a17 : St := a15.p [(31, (vI y4)), (30, (.d (.sl 10 (p0.items.map cGPExpr)))), (29, (.ptr 2 4))]
   refine st 3 a17 (cs h (OK_wSzPExprS p0.items y4) fun y5 h => ?_)
   let a18 : St := a17.p [(1, (vI y5)), (32, (vI y5))]
   refine st 1 a18 (nx (si (so ?_)))
   let a19 : St := a18.p [(34, (vB (decide (y5 < 0)))), (33, (vI y5))]
   refine st 2 a19 (nx ?_)
   refine cd h (fun h => ?_) fun h => ?_
   refine so ?_
   let a20 : St := a19.p [(4, (vI (-1)))]
   refine st 1 a20 (nx (ri (tr ?_)))
   injection h with h; subst h
   exact ret1_step (v := (vI (-1))) (by kernel_rfl) (by kernel_rfl) (by kernel_rfl)
   refine ki (xi (so ?_))
   let a21 : St := a19.p [(37, (vI y5)), (36, (.d (.sl 1 (p0.names.map cStr)))), (35, (.ptr 2 5))]
   refine st 3 a21 (cs h (OK_wSzStringS p0.names y5) fun y6 h => ?_)
   let a22 : St := a21.p [(1, (vI y6)), (38, (vI y6))]
   refine st 1 a22 (nx (si (so ?_)))
   let a23 : St := a22.p [(40, (vB (decide (y6 < 0)))), (39, (vI y6))]
   refine st 2 a23 (nx ?_)
   refine cd h (fun h => ?_) fun h => ?_
   refine so ?_
   let a24 : St := a23.p [(4, (vI (-1)))]
   refine st 1 a24 (nx (ri (tr ?_)))
   injection h with h; subst h
   exact ret1_step (v := (vI (-1))) (by kernel_rfl) (by kernel_rfl) (by kernel_rfl)
   refine ki (xi (so ?_))
   let a25 : St := a23.p [(4, (vI y6)), (41, (vI y6))]
   refine st 2 a25 (nx (ri ?_))
   injection h with h; subst h
   exact ret1_step (v := (vI y6)) (by kernel_rfl) (by kernel_rfl) (by kernel_rfl)
 · intro F_wSzPSortS_L0 OK_wSzPSortS_L0 p0 p1 r h
   refine acalls_of_fn trwSzPSortS (Nat.le_of_ble_eq_true rfl) (by simp) ?_
   show avc Try.prog acwSzPSortS (qwSzPSortS _) ⟨[(0, (.d (.sl 11 (p0.map cGPSort)))), (1, (vI p1))], []⟩
   delta acwSzPSortS
   refine so ?_
   let a0 : St := ⟨[(4, (vI 0)), (0, (.d (.sl 11 (p0.map cGPSort)))), (1, (vI p1))], []⟩
   refine st 1 a0 (nx (so ?_))
   let a1 : St := a0.p [(7, (.d (.sl 11 (p0.map cGPSort)))), (6, (vI p1))]
   refine st 2 a1 (ps (vI (p0.length : Int)) (vop_len (sz := 11) (l := p0) (f := cGPSort) (by kernel_rfl) (by kernel_rfl)) ?_)
   let a2 : St := a1.p [(1, (vI (IntKind.wrap .i64 (p1 - (p0.length : Int))))), (9, (vI (IntKind.wrap .i64 (p1 - (p0.length : Int))))), (8, (vI (p0.length : Int)))]
   refine st 2 a2 (nx (si (so ?_)))
   let a3 : St := a2.p [(11, (vB (decide ((IntKind.wrap .i64 (p1 - (p0.length : Int))) < 0)))), (10, (vI (IntKind.wrap .i64 (p1 - (p0.length : Int)))))]
   refine st 2 a3 (nx ?_)
   refine cd h (fun h => ?_) fun h => ?_
   refine so ?_
   let a4 : St := a3.p [(4, (vI (-1)))]
   refine st 1 a4 (nx (ri (tr ?_)))
   injection h with h; subst h
   exact ret1_step (v := (vI (-1))) (by kernel_rfl) (by kernel_rfl) (by kernel_rfl)
   refine ki (xi (si (so ?_)))
   let a5 : St := a3.p [(5, (vI 0))]
   exact st 1 a5 (nx (bi (loop_go (s' := stwSzPSortS_L0 p0 (IntKind.wrap .i64 (p1 - (p0.length : Int))) 0) (wr [] (es (es (es er_nil))) br_nil) (OK_wSzPSortS_L0 p0 (IntKind.wrap .i64 (p1 - (p0.length : Int))) 0 _ h))))
 · intro F_wSzPSort F_wSzPSortS_L0 OK_wSzPSort OK_wSzPSortS_L0 p0 x1 x5 r h
   delta acwSzPSortS_L0
   refine loop_unroll (si (so ?_))
   let a6 : St := (stwSzPSortS_L0 p0 x1 x5).p [(13, (.d (.sl 11 (p0.map cGPSort)))), (12, (vI x5))]
   refine st 2 a6 (ps (vI (p0.length : Int)) (vop_len (sz := 11) (l := p0) (f := cGPSort) (by kernel_rfl) (by kernel_rfl)) ?_)
   let a7 : St := a6.p [(15, (vB (decide (x5 < (p0.length : Int))))), (14, (vI (p0.length : Int)))]
   refine st 1 a7 (nx ?_)
   refine cd h (fun h => ?_) fun h => ?_
   refine ki (xi (si (bi (so ?_))))
   let a8 : St := a7.p [(19, (vI x5)), (18, (.d (.sl 11 (p0.map cGPSort))))]
   refine st 2 a8 (vs (fun (y : GPSort) => (.rp (oGPSort y))) h (fun y hy => vop_ia (l := p0) (f := cGPSort) (g := oGPSort) (k := .i64) hy cGPSort_eq (by kernel_rfl) (by kernel_rfl) (by kernel_rfl)) fun y1 h => ?_)
   let a9 : St := a8.p [(22, (vI x1)), (21, (vGPSort y1)), (20, (.rp (oGPSort y1)))]
   refine st 2 a9 (cs h (OK_wSzPSort y1 x1) fun y2 h => ?_)
   let a10 : St := a9.p [(1, (vI y2)), (23, (vI y2))]
   refine st 1 a10 (nx (so ?_))
   let a11 : St := a10.p [(25, (vB (decide (y2 < 0)))), (24, (vI y2))]
   refine st 2 a11 (nx ?_)
   refine cd h (fun h => ?_) fun h => ?_
   refine so ?_
   let a12 : St := a11.p [(4, (vI (-1)))]
   refine st 1 a12 (nx (ri (br (tr (tr (br (tr ?_)))))))
   injection h with h; subst h
   exact ret1_step (v := (vI (-1))) (by kernel_rfl) (by kernel_rfl) (by kernel_rfl)
   refine ki (bn (xi (oi ?_)))
   let a13 : St := a11.p [(5, (vI (IntKind.wrap .i64 (x5 + 1)))), (17, (vI (IntKind.wrap .i64 (x5 + 1)))), (16, (vI x5))]
   exact st 3 a13 (ni (loop_back (s' := stwSzPSortS_L0 p0 y2 (IntKind.wrap .i64 (x5 + 1))) (wr [] (es (es (es er_nil))) br_nil) (OK_wSzPSortS_L0 p0 y2 (IntKind.wrap .i64 (x5 + 1)) _ h)))
   refine ei (te (te (bh (xi (so ?_)))))
   let a14 : St := a7.p [(4, (vI x1)), (26, (vI x1))]
   refine st 2 a14 (nx (ri ?_))
   injection h with h; subst h
   exact ret1_step (v := (vI x1)) (by kernel_rfl) (by kernel_rfl) (by kernel_rfl)
 · intro F_wSzPExprS_L0 OK_wSzPExprS_L0 p0 p1 r h
   refine acalls_of_fn trwSzPExprS (Nat.le_of_ble_eq_true rfl) (by simp) ?_
   show avc Try.prog acwSzPExprS (qwSzPExprS _) ⟨[(0, (.d (.sl 10 (p0.map cGPExpr)))), (1, (vI p1))], []⟩
   delta acwSzPExprS
   refine so ?_
   let a0 : St := ⟨[(4, (vI 0)), (0, (.d (.sl 10 (p0.map cGPExpr)))), (1, (vI p1))], []⟩
   refine st 1 a0 (nx (so ?_))
   let a1 : St := a0.p [(7, (.d (.sl 10 (p0.map cGPExpr)))), (6, (vI p1))]
   refine st 2 a1 (ps (vI (p0.length : Int)) (vop_len (sz := 10) (l := p0) (f := cGPExpr) (by kernel_rfl) (by kernel_rfl)) ?_)
   let a2 : St := a1.p [(1, (vI (IntKind.wrap .i64 (p1 - (p0.length : Int))))), (9, (vI (IntKind.wrap .i64 (p1 - (p0.length : Int))))), (8, (vI (p0.length : Int)))]
   refine st 2 a2 (nx (si (so ?_)))
   let a3 : St := a2.p [(11, (vB (decide ((IntKind.wrap .i64 (p1 - (p0.length : Int))) < 0)))), (10, (vI (IntKind.wrap .i64 (p1 - (p0.length : Int)))))]
   refine st 2 a3 (nx ?_)
   refine cd h (fun h => ?_) fun h => ?_
   refine so ?_
   let a4 : St := a3.p [(4, (vI (-1)))]
   refine st 1 a4 (nx (ri (tr ?_)))
   injection h with h; subst h
   exact ret1_step (v := (vI (-1))) (by kernel_rfl) (by kernel_rfl) (by kernel_rfl)
   refine ki (xi (si (so ?_)))
   let a5 : St := a3.p [(5, (vI 0))]
   exact st 1 a5 (nx (bi (loop_go (s' := stwSzPExprS_L0 p0 (IntKind.wrap .i64 (p1 - (p0.length : Int))) 0) (wr [] (es (es (es er_nil))) br_nil) (OK_wSzPExprS_L0 p0 (IntKind.wrap .i64 (p1 - (p0.length : Int))) 0 _ h))))
 · intro F_wSzPExpr F_wSzPExprS_L0 OK_wSzPExpr OK_wSzPExprS_L0 p0 x1 x5 r h
   delta acwSzPExprS_L0
   refine loop_unroll (si (so ?_))
   let a6 : St := (stwSzPExprS_L0 p0 x1 x5).p [(13, (.d (.sl 10 (p0.map cGPExpr)))), (12, (vI x5))]
   refine st 2 a6 (ps (vI (p0.length : Int)) (vop_len (sz := 10) (l := p0) (f := cGPExpr) (by kernel_rfl) (by kernel_rfl)) ?_)
   let a7 : St := a6.p [(15, (vB (decide (x5 < (p0.length : Int))))), (14, (vI (p0.length : Int)))]
   refine st 1 a7 (nx ?_)
   refine cd h (fun h => ?_) fun h => ?_
   refine ki (xi (si (bi (so ?_))))
   let a8 : St := a7.p [(19, (vI x5)), (18, (.d (.sl 10 (p0.map cGPExpr))))]
   refine st 2 a8 (vs (fun (y : GPExpr) => (.rp (oGPExpr y))) h (fun y hy => vop_ia (l := p0) (f := cGPExpr) (g := oGPExpr) (k := .i64) hy cGPExpr_eq (by kernel_rfl) (by kernel_rfl) (by kernel_rfl)) fun y1 h => ?_)
   let a9 : St := a8.p [(22, (vI x1)), (21, (vGPExpr y1)), (20, (.rp (oGPExpr y1)))]
   refine st 2 a9 (cs h (OK_wSzPExpr y1 x1) fun y2 h => ?_)
   let a10 : St := a9.p [(1, (vI y2)), (23, (vI y2))]
   refine st 1 a10 (nx (so ?_))
   let a11 : St := a10.p [(25, (vB (decide (y2 < 0)))), (24, (vI y2))]
   refine st 2 a11 (nx ?_)
   refine cd h (fun h => ?_) fun h => ?_
   refine so ?_
   let a12 : St := a11.p [(4, (vI (-1)))]
   refine st 1 a12 (nx (ri (br (tr (tr (br (tr ?_)))))))
   injection h with h; subst h
   exact ret1_step (v := (vI (-1))) (by kernel_rfl) (by kernel_rfl) (by kernel_rfl)
   refine ki (bn (xi (oi ?_)))
   let a13 : St := a11.p [(5, (vI (IntKind.wrap .i64 (x5 + 1)))), (17, (vI (IntKind.wrap .i64 (x5 + 1)))), (16, (vI x5))]
   exact st 3 a13 (ni (loop_back (s' := stwSzPExprS_L0 p0 y2 (IntKind.wrap .i64 (x5 + 1))) (wr [] (es (es (es er_nil))) br_nil) (OK_wSzPExprS_L0 p0 y2 (IntKind.wrap .i64 (x5 + 1)) _ h)))
   refine ei (te (te (bh (xi (so ?_)))))
   let a14 : St := a7.p [(4, (vI x1)), (26, (vI x1))]
   refine st 2 a14 (nx (ri ?_))
   injection h with h; subst h
   exact ret1_step (v := (vI x1)) (by kernel_rfl) (by kernel_rfl) (by kernel_rfl)
 · intro F_wSzPExprSS_L0 OK_wSzPExprSS_L0 p0 p1 r h
   refine acalls_of_fn trwSzPExprSS (Nat.le_of_ble_eq_true rfl) (by simp) ?_
   show avc Try.prog acwSzPExprSS (qwSzPExprSS _) ⟨[(0, (.d (.sl 1 (p0.map (cSl 10 cGPExpr))))), (1, (vI p1))], []⟩
   delta acwSzPExprSS
   refine so ?_
   let a0 : St := ⟨[(4, (vI 0)), (0, (.d (.sl 1 (p0.map (cSl 10 cGPExpr))))), (1, (vI p1))], []⟩
   refine st 1 a0 (nx (so ?_))
   let a1 : St := a0.p [(7, (.d (.sl 1 (p0.map (cSl 10 cGPExpr))))), (6, (vI p1))]
   refine st 2 a1 (ps (vI (p0.length : Int)) (vop_len (sz := 1) (l := p0) (f := (cSl 10 cGPExpr)) (by kernel_rfl) (by kernel_rfl)) ?_)
   let a2 : St := a1.p [(1, (vI (IntKind.wrap .i64 (p1 - (p0.length : Int))))), (9, (vI (IntKind.wrap .i64 (p1 - (p0.length : Int))))), (8, (vI (p0.length : Int)))]
   refine st 2 a2 (nx (si (so ?_)))
   let a3 : St := a2.p [(11, (vB (decide ((IntKind.wrap .i64 (p1 - (p0.length : Int))) < 0)))), (10, (vI (IntKind.wrap .i64 (p1 - (p0.length : Int)))))]
   refine st 2 a3 (nx ?_)
   refine cd h (fun h => ?_) fun h => ?_
   refine so ?_
   let a4 : St := a3.p [(4, (vI (-1)))]
   refine st 1 a4 (nx (ri (tr ?_)))
   injection h with h; subst h
   exact ret1_step (v := (vI (-1))) (by kernel_rfl) (by kernel_rfl) (by kernel_rfl)
   refine ki (xi (si (so ?_)))
   let a5 : St := a3.p [(5, (vI 0))]
   exact st 1 a5 (nx (bi (loop_go (s' := stwSzPExprSS_L0 p0 (IntKind.wrap .i64 (p1 - (p0.length : Int))) 0) (wr [] (es (es (es er_nil))) br_nil) (OK_wSzPExprSS_L0 p0 (IntKind.wrap .i64 (p1 - (p0.length : Int))) 0 _ h))))
 · intro F_wSzPExprS F_wSzPExprSS_L0 OK_wSzPExprS OK_wSzPExprSS_L0 p0 x1 x5 r h
   delta acwSzPExprSS_L0
   refine loop_unroll (si (so ?_))
   let a6 : St := (stwSzPExprSS_L0 p0 x1 x5).p [(13, (.d (.sl 1 (p0.map (cSl 10 cGPExpr))))), (12, (vI x5))]
   refine st 2 a6 (ps (vI (p0.length : Int)) (vop_len (sz := 1) (l := p0) (f := (cSl 10 cGPExpr)) (by kernel_rfl) (by kernel_rfl)) ?_)
   let a7 : St := a6.p [(15, (vB (decide (x5 < (p0.length : Int))))), (14, (vI (p0.length : Int)))]
   refine st 1 a7 (nx ?_)
   refine cd h (fun h => ?_) fun h => ?_
   refine ki (xi (si (bi (so ?_))))
   let a8 : St := a7.p [(19, (vI x5)), (18, (.d (.sl 1 (p0.map (cSl 10 cGPExpr)))))]
   refine st 2 a8 (vs (fun (y : (List GPExpr)) => (.rp [(.sl 10 (y.map cGPExpr))])) h (fun y hy => vop_ia (l := p0) (f := (cSl 10 cGPExpr)) (g := (cSl 10 cGPExpr)) (k := .i64) hy (fun _ => rfl) (by kernel_rfl) (by kernel_rfl) (by kernel_rfl)) fun y1 h => ?_)
   let a9 : St := a8.p [(22, (vI x1)), (21, (.d (.sl 10 (y1.map cGPExpr)))), (20, (.rp [(.sl 10 (y1.map cGPExpr))]))]
   refine st 2 a9 (cs h (OK_wSzPExprS y1 x1) fun y2 h => ?_)
   let a10 : St := a9.p [(1, (vI y2)), (23, (vI y2))]
   refine st 1 a10 (nx (so ?_))
   let a11 : St := a10.p [(25, (vB (decide (y2 < 0)))), (24, (vI y2))]
   refine st 2 a11 (nx ?_)
   refine cd h (fun h => ?_) fun h => ?_
   refine so ?_
   let a12 : St := a11.p [(4, (vI (-1)))]
   refine st 1 a12 (nx (ri (br (tr (tr (br (tr ?_)))))))
   injection h with h; subst h
   exact ret1_step (v := (vI (-1))) (by kernel_rfl) (by kernel_rfl) (by kernel_rfl)
   refine ki (bn (xi (oi ?_)))
   let a13 : St := a11.p [(5, (vI (IntKind.wrap .i64 (x5 + 1)))), (17, (vI (IntKind.wrap .i64 (x5 + 1)))), (16, (vI x5))]
   exact st 3 a13 (ni (loop_back (s' := stwSzPExprSS_L0 p0 y2 (IntKind.wrap .i64 (x5 + 1))) (wr [] (es (es (es er_nil))) br_nil) (OK_wSzPExprSS_L0 p0 y2 (IntKind.wrap .i64 (x5 + 1)) _ h)))
   refine ei (te (te (bh (xi (so ?_)))))
   let a14 : St := a7.p [(4, (vI x1)), (26, (vI x1))]
   refine st 2 a14 (nx (ri ?_))
   injection h with h; subst h
   exact ret1_step (v := (vI x1)) (by kernel_rfl) (by kernel_rfl) (by kernel_rfl)
theorem OK_wSzPSort (p0 : GPSort) (p1 : Int) : FOk Try.prog 49 [(vGPSort p0), (vI p1)] (fun y => (vI y)) (wSzPSort p0 p1) := fun r h => (OKs_wSzPSort).1 p0 p1 r h
theorem OK_wSzPExpr (p0 : GPExpr) (p1 : Int) : FOk Try.prog 5 [(vGPExpr p0), (vI p1)] (fun y => (vI y)) (wSzPExpr p0 p1) := fun r h => (OKs_wSzPSort).2.1 p0 p1 r h
theorem OK_wSzPlanS (p0 : (List GPlan)) (p1 : Int) : FOk Try.prog 17 [(.d (.sl 8 (p0.map cGPlan))), (vI p1)] (fun y => (vI y)) (wSzPlanS p0 p1) := fun r h => (OKs_wSzPSort).2.2.1 p0 p1 r h
theorem OK_wSzPlanS_L0 (p0 : (List GPlan)) (x1 : Int) (x5 : Int) (r : Int) (h : wSzPlanS_L0 p0 x1 x5 = some r) : avc Try.prog acwSzPlanS_L0 (qwSzPlanS_1 r) (stwSzPlanS_L0 p0 x1 x5) := (OKs_wSzPSort).2.2.2.1 p0 x1 x5 r h
theorem OK_wSzPlan (p0 : GPlan) (p1 : Int) : FOk Try.prog 10 [(vGPlan p0), (vI p1)] (fun y => (vI y)) (wSzPlan p0 p1) := fun r h => (OKs_wSzPSort).2.2.2.2.1 p0 p1 r h
theorem OK_wSzPSortS (p0 : (List GPSort)) (p1 : Int) : FOk Try.prog 29 [(.d (.sl 11 (p0.map cGPSort))), (vI p1)] (fun y => (vI y)) (wSzPSortS p0 p1) := fun r h => (OKs_wSzPSort).2.2.2.2.2.1 p0 p1 r h
theorem OK_wSzPSortS_L0 (p0 : (List GPSort)) (x1 : Int) (x5 : Int) (r : Int) (h : wSzPSortS_L0 p0 x1 x5 = some r) : avc Try.prog acwSzPSortS_L0 (qwSzPSortS_1 r) (stwSzPSortS_L0 p0 x1 x5) := (OKs_wSzPSort).2.2.2.2.2.2.1 p0 x1 x5 r h
theorem OK_wSzPExprS (p0 : (List GPExpr)) (p1 : Int) : FOk Try.prog 16 [(.d (.sl 10 (p0.map cGPExpr))), (vI p1)] (fun y => (vI y)) (wSzPExprS p0 p1) := fun r h => (OKs_wSzPSort).2.2.2.2.2.2.2.1 p0 p1 r h
theorem OK_wSzPExprS_L0 (p0 : (List GPExpr)) (x1 : Int) (x5 : Int) (r : Int) (h : wSzPExprS_L0 p0 x1 x5 = some r) : avc Try.prog acwSzPExprS_L0 (qwSzPExprS_1 r) (stwSzPExprS_L0 p0 x1 x5) := (OKs_wSzPSort).2.2.2.2.2.2.2.2.1 p0 x1 x5 r h
theorem OK_wSzPExprSS (p0 : (List (List GPExpr))) (p1 : Int) : FOk Try.prog 28 [(.d (.sl 1 (p0.map (cSl 10 cGPExpr)))), (vI p1)] (fun y => (vI y)) (wSzPExprSS p0 p1) := fun r h => (OKs_wSzPSort).2.2.2.2.2.2.2.2.2.1 p0 p1 r h
theorem OK_wSzPExprSS_L0 (p0 : (List (List GPExpr))) (x1 : Int) (x5 : Int) (r : Int) (h : wSzPExprSS_L0 p0 x1 x5 = some r) : avc Try.prog acwSzPExprSS_L0 (qwSzPExprSS_1 r) (stwSzPExprSS_L0 p0 x1 x5) := (OKs_wSzPSort).2.2.2.2.2.2.2.2.2.2 p0 x1 x5 r h
theorem OKs_wToIntS_L0 (p0 : (List Int)) : (∀ (x4 : Int) (b7_0 : (List Int)) (r : (List Int)), wToIntS_L0 p0 x4 b7_0 = some r → avc Try.prog acwToIntS_L0 (qwToIntS_1 r) (stwToIntS_L0 p0 x4 b7_0)) := by
 refine wToIntS_L0.partial_correctness p0 (fun x4 b7_0 r => avc Try.prog acwToIntS_L0 (qwToIntS_1 r) (stwToIntS_L0 p0 x4 b7_0)) ?_
 · intro F_wToIntS_L0 OK_wToIntS_L0 x4 b7_0 r h
   delta acwToIntS_L0
   refine loop_unroll (si (so ?_))
   let a4 : St := (stwToIntS_L0 p0 x4 b7_0).p [(9, (.d (.sl 1 (p0.map cI)))), (8, (vI x4))]
   refine st 2 a4 (ps (vI (p0.length : Int)) (vop_len (sz := 1) (l := p0) (f := cI) (by kernel_rfl) (by kernel_rfl)) ?_)
   let a5 : St := a4.p [(11, (vB (decide (x4 < (p0.length : Int))))), (10, (vI (p0.length : Int)))]
   refine st 1 a5 (nx ?_)
   refine cd h (fun h => ?_) fun h => ?_
   refine ki (xi (si (bi (oi ?_))))
   let a6 : St := a5.p [(17, (vI x4)), (16, (.d (.sl 1 (p0.map cI)))), (15, (vI x4)), (14, (.msl 7 1 0 b7_0.length b7_0.length))]
   refine st 4 a6 (vs (fun (y : Int) => (.rp [(.i .i64 y)])) h (fun y hy => vop_ia (l := p0) (f := cI) (g := cI) (k := .i64) hy (fun _ => rfl) (by kernel_rfl) (by kernel_rfl) (by kernel_rfl)) fun y2 h => ?_)
   let a7 : St := a6.p [(19, (vI y2)), (18, (.rp [(.i .i64 y2)]))]
   refine st 1 a7 (vs (fun (y : Int) => (.ptr 7 ((0 + (x4).toNat) * 1))) h (fun y hy => vop_iaE (l := b7_0) (k := .i64) hy (by kernel_rfl) (by kernel_rfl) (by kernel_rfl)) fun y3 h => ?_)
   refine sti_step (b := 7) (i := x4) (l := b7_0) (v := y2) (f := cI) (u := (vI y2)) (T := fun y m => ⟨[(20, (.ptr 7 ((0 + (x4).toNat) * 1))), (19, (vI y2)), (18, (.rp [(.i .i64 y2)])), (17, (vI x4)), (16, (.d (.sl 1 (p0.map cI)))), (15, (vI x4)), (14, (.msl 7 1 0 m m)), (11, (vB (decide (x4 < (p0.length : Int))))), (10, (vI (p0.length : Int))), (9, (.d (.sl 1 (p0.map cI)))), (8, (vI x4)), (0, (.d (.sl 1 (p0.map cI)))), (3, (.msl 7 1 0 m m)), (4, (vI x4))], [(7, rowsV (y.map cI))]⟩) h (by kernel_rfl) (by kernel_rfl) (by kernel_rfl) (by kernel_rfl) (fun y => (congrArg List.length ((fun _ => rfl) y)).trans rfl) (by kernel_rfl) (fun y => by kernel_rfl) ?_
   clear h; intro y4 h
   refine ni (bn (xi (oi ?_)))
   let a8 : St := ⟨[(4, (vI (IntKind.wrap .i64 (x4 + 1)))), (13, (vI (IntKind.wrap .i64 (x4 + 1)))), (12, (vI x4)), (20, (.ptr 7 ((0 + (x4).toNat) * 1))), (19, (vI y2)), (18, (.rp [(.i .i64 y2)])), (17, (vI x4)), (16, (.d (.sl 1 (p0.map cI)))), (15, (vI x4)), (14, (.msl 7 1 0 y4.length y4.length)), (11, (vB (decide (x4 < (p0.length : Int))))), (10, (vI (p0.length : Int))), (9, (.d (.sl 1 (p0.map cI)))), (8, (vI x4)), (0, (.d (.sl 1 (p0.map cI)))), (3, (.msl 7 1 0 y4.length y4.length)), (4, (vI x4))], [(7, rowsV (y4.map cI))]⟩
   exact st 3 a8 (ni (loop_back (s' := stwToIntS_L0 p0 (IntKind.wrap .i64 (x4 + 1)) y4) (wr [] (es (es (es er_nil))) (br_rows (by kernel_rfl) br_nil)) (OK_wToIntS_L0 (IntKind.wrap .i64 (x4 + 1)) y4 _ h)))
   refine ei (te (te (bh (xi (so ?_)))))
   let a9 : St := a5.p [(2, (.msl 7 1 0 b7_0.length b7_0.length)), (21, (.msl 7 1 0 b7_0.length b7_0.length))]
   refine st 2 a9 (nx (ret_frz (n := 7) (sz := 1) (l := b7_0) (f := cI) (s' := ⟨[(2, (.d (.sl 1 (b7_0.map cI))))], []⟩) (by decide) (fun y => (congrArg List.length ((fun _ => rfl) y)).trans rfl) (by kernel_rfl) (⟨.inr ⟨b7_0.length, b7_0.length, by kernel_rfl, lms b7_0 _, by kernel_rfl⟩, trivial⟩) (trivial) (ri ?_)))
   injection h with h; subst h
   exact ret1_step (v := (.d (.sl 1 (b7_0.map cI)))) (by kernel_rfl) (by kernel_rfl) (by kernel_rfl)
theorem OK_wToIntS_L0 (p0 : (List Int)) (x4 : Int) (b7_0 : (List Int)) (r : (List Int)) (h : wToIntS_L0 p0 x4 b7_0 = some r) : avc Try.prog acwToIntS_L0 (qwToIntS_1 r) (stwToIntS_L0 p0 x4 b7_0) := (OKs_wToIntS_L0 p0) x4 b7_0 r h
theorem OK_wToIntS (p0 : (List Int)) : FOk Try.prog 32 [(.d (.sl 1 (p0.map cI)))] (fun y => (.d (.sl 1 (y.map cI)))) (wToIntS p0) := by
 intro r h
 rw [wToIntS] at h
 refine acalls_of_fn trwToIntS (Nat.le_of_ble_eq_true rfl) (by simp) ?_
 show avc Try.prog acwToIntS (qwToIntS _) ⟨[(0, (.d (.sl 1 (p0.map cI))))], []⟩
 delta acwToIntS
 refine so ?_
 let a0 : St := ⟨[(2, (.nil 1)), (0, (.d (.sl 1 (p0.map cI))))], []⟩
 refine st 1 a0 (nx (so ?_))
 let a1 : St := a0.p [(5, (.d (.sl 1 (p0.map cI))))]
 refine st 1 a1 (ps (vI (p0.length : Int)) (vop_len (sz := 1) (l := p0) (f := cI) (by kernel_rfl) (by kernel_rfl)) (mks_step (k := .i64) (k' := .i64) (z := (0 : Int)) (f := cI) (S' := fun y => ⟨(7, (.msl 7 1 0 y.length y.length)) :: (6, (vI (p0.length : Int))) :: a1.env, [(7, rowsV (y.map cI))]⟩) h (by kernel_rfl) (by kernel_rfl) (by kernel_rfl) (by kernel_rfl) (by kernel_rfl) (fun y => by kernel_rfl) ?_))
 clear h; intro y1 h
 let a2 : St := ⟨(3, (.msl 7 1 0 y1.length y1.length)) :: (7, (.msl 7 1 0 y1.length y1.length)) :: (6, (vI (p0.length : Int))) :: a1.env, [(7, rowsV (y1.map cI))]⟩
 refine st 1 a2 (nx (si (so ?_)))
 let a3 : St := a2.p [(4, (vI 0))]
 exact st 1 a3 (nx (bi (loop_go (s' := stwToIntS_L0 p0 0 y1) (wr [] (es (es (es er_nil))) (br_rows (by kernel_rfl) br_nil)) (OK_wToIntS_L0 p0 0 y1 _ h))))
theorem OKs_wToStringS_L0 (p0 : (List (List UInt8))) : (∀ (x4 : Int) (b7_0 : (List (List UInt8))) (r : (List (List UInt8))), wToStringS_L0 p0 x4 b7_0 = some r → avc Try.prog acwToStringS_L0 (qwToStringS_1 r) (stwToStringS_L0 p0 x4 b7_0)) := by
 refine wToStringS_L0.partial_correctness p0 (fun x4 b7_0 r => avc Try.prog acwToStringS_L0 (qwToStringS_1 r) (stwToStringS_L0 p0 x4 b7_0)) ?_
 · intro F_wToStringS_L0 OK_wToStringS_L0 x4 b7_0 r h
   delta acwToStringS_L0
   refine loop_unroll (si (so ?_))
   let a4 : St := (stwToStringS_L0 p0 x4 b7_0).p [(9, (.d (.sl 1 (p0.map cStr)))), (8, (vI x4))]
   refine st 2 a4 (ps (vI (p0.length : Int)) (vop_len (sz := 1) (l := p0) (f := cStr) (by kernel_rfl) (by kernel_rfl)) ?_)
   let a5 : St := a4.p [(11, (vB (decide (x4 < (p0.length : Int))))), (10, (vI (p0.length : Int)))]
   refine st 1 a5 (nx ?_)
   refine cd h (fun h => ?_) fun h => ?_
   refine ki (xi (si (bi (oi ?_))))
   let a6 : St := a5.p [(17, (vI x4)), (16, (.d (.sl 1 (p0.map cStr)))), (15, (vI x4)), (14, (.msl 7 1 0 b7_0.length b7_0.length))]
   refine st 4 a6 (vs (fun (y : (List UInt8)) => (.rp [(.s (bs y))])) h (fun y hy => vop_ia (l := p0) (f := cStr) (g := cStr) (k := .i64) hy (fun _ => rfl) (by kernel_rfl) (by kernel_rfl) (by kernel_rfl)) fun y2 h => ?_)
   let a7 : St := a6.p [(19, (vS y2)), (18, (.rp [(.s (bs y2))]))]
   refine st 1 a7 (vs (fun (y : (List UInt8)) => (.ptr 7 ((0 + (x4).toNat) * 1))) h (fun y hy => vop_iaE (l := b7_0) (k := .i64) hy (by kernel_rfl) (by kernel_rfl) (by kernel_rfl)) fun y3 h => ?_)
   refine sti_step (b := 7) (i := x4) (l := b7_0) (v := y2) (f := cStr) (u := (vS y2)) (T := fun y m => ⟨[(20, (.ptr 7 ((0 + (x4).toNat) * 1))), (19, (vS y2)), (18, (.rp [(.s (bs y2))])), (17, (vI x4)), (16, (.d (.sl 1 (p0.map cStr)))), (15, (vI x4)), (14, (.msl 7 1 0 m m)), (11, (vB (decide (x4 < (p0.length : Int))))), (10, (vI (p0.length : Int))), (9, (.d (.sl 1 (p0.map cStr)))), (8, (vI x4)), (0, (.d (.sl 1 (p0.map cStr)))), (3, (.msl 7 1 0 m m)), (4, (vI x4))], [(7, rowsV (y.map cStr))]⟩) h (by kernel_rfl) (by kernel_rfl) (by kernel_rfl) (by kernel_rfl) (fun y => (congrArg List.length ((fun _ => rfl) y)).trans rfl) (by kernel_rfl) (fun y => by kernel_rfl) ?_
   clear h; intro y4 h
   refine ni (bn (xi (oi ?_)))
   let a8 : St := ⟨[(4, (vI (IntKind.wrap .i64 (x4 + 1)))), (13, (vI (IntKind.wrap .i64 (x4 + 1)))), (12, (vI x4)), (20, (.ptr 7 ((0 + (x4).toNat) * 1))), (19, (vS y2)), (18, (.rp [(.s (bs y2))])), (17, (vI x4)), (16, (.d (.sl 1 (p0.map cStr)))), (15, (vI x4)), (14, (.msl 7 1 0 y4.length y4.length)), (11, (vB (decide (x4 < (p0.length : Int))))), (10, (vI (p0.length : Int))), (9, (.d (.sl 1 (p0.map cStr)))), (8, (vI x4)), (0, (.d (.sl 1 (p0.map cStr)))), (3, (.msl 7 1 0 y4.length y4.length)), (4, (vI x4))], [(7, rowsV (y4.map cStr))]⟩
   exact st 3 a8 (ni (loop_back (s' := stwToStringS_L0 p0 (IntKind.wrap .i64 (x4 + 1)) y4) (wr [] (es (es (es er_nil))) (br_rows (by kernel_rfl) br_nil)) (OK_wToStringS_L0 (IntKind.wrap .i64 (x4 + 1)) y4 _ h)))
   refine ei (te (te (bh (xi (so ?_)))))
   let a9 : St := a5.p [(2, (.msl 7 1 0 b7_0.length b7_0.length)), (21, (.msl 7 1 0 b7_0.length b7_0.length))]
   refine st 2 a9 (nx (ret_frz (n := 7) (sz := 1) (l := b7_0) (f := cStr) (s' := ⟨[(2, (.d (.sl 1 (b7_0.map cStr))))], []⟩) (by decide) (fun y => (congrArg List.length ((fun _ => rfl) y)).trans rfl) (by kernel_rfl) (⟨.inr ⟨b7_0.length, b7_0.length, by kernel_rfl, lms b7_0 _, by kernel_rfl⟩, trivial⟩) (trivial) (ri ?_)))
   injection h with h; subst h
   exact ret1_step (v := (.d (.sl 1 (b7_0.map cStr)))) (by kernel_rfl) (by kernel_rfl) (by kernel_rfl)
theorem OK_wToStringS_L0 (p0 : (List (List UInt8))) (x4 : Int) (b7_0 : (List (List UInt8))) (r : (List (List UInt8))) (h : wToStringS_L0 p0 x4 b7_0 = some r) : avc Try.prog acwToStringS_L0 (qwToStringS_1 r) (stwToStringS_L0 p0 x4 b7_0) := (OKs_wToStringS_L0 p0) x4 b7_0 r h
theorem OK_wToStringS (p0 : (List (List UInt8))) : FOk Try.prog 35 [(.d (.sl 1 (p0.map cStr)))] (fun y => (.d (.sl 1 (y.map cStr)))) (wToStringS p0) := by
 intro r h
 rw [wToStringS] at h
 refine acalls_of_fn trwToStringS (Nat.le_of_ble_eq_true rfl) (by simp) ?_
 show avc Try.prog acwToStringS (qwToStringS _) ⟨[(0, (.d (.sl 1 (p0.map cStr))))], []⟩
 delta acwToStringS
 refine so ?_
 let a0 : St := ⟨[(2, (.nil 1)), (0, (.d (.sl 1 (p0.map cStr))))], []⟩
 refine st 1 a0 (nx (so ?_))
 let a1 : St := a0.p [(5, (.d (.sl 1 (p0.map cStr))))]
 refine st 1 a1 (ps (vI (p0.length : Int)) (vop_len (sz := 1) (l := p0) (f := cStr) (by kernel_rfl) (by kernel_rfl)) ?_)
 refine mks_step (k := .i64) (k' := .i64) (z := ([] : (List UInt8))) (f := cStr) (S' := fun y => ⟨(7, (.msl 7 1 0 y.length y.length)) :: (6, (vI (p0.length : Int))) :: a1.env, [(7, rowsV (y.map cStr))]⟩) h (by kernel_rfl) (by kernel_rfl) (by kernel_rfl) (by kernel_rfl) (by kernel_rfl) (fun y => by kernel_rfl) ?_
 clear h; intro y1 h
 let a2 : St := ⟨(3, (.msl 7 1 0 y1.length y1.length)) :: (7, (.msl 7 1 0 y1.length y1.length)) :: (6, (vI (p0.length : Int))) :: a1.env, [(7, rowsV (y1.map cStr))]⟩
 refine st 1 a2 (nx (si (so ?_)))
 let a3 : St := a2.p [(4, (vI 0))]
 exact st 1 a3 (nx (bi (loop_go (s' := stwToStringS_L0 p0 0 y1) (wr [] (es (es (es er_nil))) (br_rows (by kernel_rfl) br_nil)) (OK_wToStringS_L0 p0 0 y1 _ h))))
theorem OK_wToValue (p0 : GValue) : FOk Try.prog 19 [(vGValue p0)] (fun y => (vGValue y)) (wToValue p0) := by
 intro r h
 rw [wToValue] at h
 refine acalls_of_fn trwToValue (Nat.le_of_ble_eq_true rfl) (by simp) ?_
 show avc Try.prog acwToValue (qwToValue _) ⟨[(0, (vGValue p0))], []⟩
 delta acwToValue
 refine so ?_
 let a0 : St := ⟨[(2, (.ptr 2 0)), (1, (.ptr 1 0)), (0, (vGValue p0))], [(2, [(vI 0), (vI 0), (vS [])]), (1, bGValue p0)]⟩
 refine st 2 a0 (nx (so ?_))
 let a1 : St := ⟨(3, (.ptr 3 0)) :: a0.env, [(3, [(vI 0), (vI 0), (vS [])]), (2, [(vI 0), (vI 0), (vS [])]), (1, bGValue p0)]⟩
 refine st 1 a1 (nx (so ?_))
 let a2 : St := ⟨(6, (.ptr 3 0)) :: (5, (vI p0.kind)) :: (4, (.ptr 1 0)) :: a1.env, [(3, [(vI p0.kind), (vI 0), (vS [])]), (2, [(vI 0), (vI 0), (vS [])]), (1, bGValue p0)]⟩
 refine st 4 a2 (nx (so ?_))
 let a3 : St := ⟨(9, (.ptr 3 1)) :: (8, (vI p0.num)) :: (7, (.ptr 1 1)) :: a2.env, [(3, [(vI p0.kind), (vI p0.num), (vS [])]), (2, [(vI 0), (vI 0), (vS [])]), (1, bGValue p0)]⟩
 refine st 4 a3 (nx (so ?_))
 let a4 : St := ⟨(12, (.ptr 3 2)) :: (11, (vS p0.text)) :: (10, (.ptr 1 2)) :: a3.env, [(3, [(vI p0.kind), (vI p0.num), (vS p0.text)]), (2, [(vI 0), (vI 0), (vS [])]), (1, bGValue p0)]⟩
 refine st 4 a4 (nx (so ?_))
 let a5 : St := ⟨(13, (vGValue p0)) :: a4.env, [(3, [(vI p0.kind), (vI p0.num), (vS p0.text)]), (2, bGValue p0), (1, bGValue p0)]⟩
 refine st 2 a5 (nx (ri ?_))
 injection h with h; subst h
 exact ret1_step (v := (vGValue p0)) (by kernel_rfl) (by kernel_rfl) (by kernel_rfl)
theorem OKs_wToPSort : (∀ (p0 : GPSort) (r : GPSort), wToPSort p0 = some r → ACalls Try.prog 50 [(vGPSort p0)] [] fun x _ => x = (fun y => (vGPSort y)) r) ∧ (∀ (p0 : GPExpr) (r : GPExpr), wToPExpr p0 = some r → ACalls Try.prog 7 [(vGPExpr p0)] [] fun x _ => x = (fun y => (vGPExpr y)) r) ∧ (∀ (p0 : (List GPlan)) (r : (List GPlan)), wToPlanS p0 = some r → ACalls Try.prog 21 [(.d (.sl 8 (p0.map cGPlan)))] [] fun x _ => x = (fun y => (.d (.sl 8 (y.map cGPlan)))) r) ∧ (∀ (p0 : (List GPlan)) (x4 : Int) (b7_0 : (List GPlan)) (r : (List GPlan)), wToPlanS_L0 p0 x4 b7_0 = some r → avc Try.prog acwToPlanS_L0 (qwToPlanS_1 r) (stwToPlanS_L0 p0 x4 b7_0)) ∧ (∀ (p0 : GPlan) (r : GPlan), wToPlan p0 = some r → ACalls Try.prog 12 [(vGPlan p0)] [] fun x _ => x = (fun y => (vGPlan y)) r) ∧ (∀ (p0 : (List GPSort)) (r : (List GPSort)), wToPSortS p0 = some r → ACalls Try.prog 34 [(.d (.sl 11 (p0.map cGPSort)))] [] fun x _ => x = (fun y => (.d (.sl 11 (y.map cGPSort)))) r) ∧ (∀ (p0 : (List GPSort)) (x4 : Int) (b7_0 : (List GPSort)) (r : (List GPSort)), wToPSortS_L0 p0 x4 b7_0 = some r → avc Try.prog acwToPSortS_L0 (qwToPSortS_1 r) (stwToPSortS_L0 p0 x4 b7_0)) ∧ (∀ (p0 : (List GPExpr)) (r : (List GPExpr)), wToPExprS p0 = some r → ACalls Try.prog 20 [(.d (.sl 10 (p0.map cGPExpr)))] [] fun x _ => x = (fun y => (.d (.sl 10 (y.map cGPExpr)))) r) ∧ (∀ (p0 : (List GPExpr)) (x4 : Int) (b7_0 : (List GPExpr)) (r : (List GPExpr)), wToPExprS_L0 p0 x4 b7_0 = some r → avc Try.prog acwToPExprS_L0 (qwToPExprS_1 r) (stwToPExprS_L0 p0 x4 b7_0)) ∧ (∀ (p0 : (List (List GPExpr))) (r : (List (List GPExpr))), wToPExprSS p0 = some r → ACalls Try.prog 33 [(.d (.sl 1 (p0.map (cSl 10 cGPExpr))))] [] fun x _ => x = (fun y => (.d (.sl 1 (y.map (cSl 10 cGPExpr))))) r) ∧ (∀ (p0 : (List (List GPExpr))) (x4 : Int) (b7_0 : (List (List GPExpr))) (r : (List (List GPExpr))), wToPExprSS_L0 p0 x4 b7_0 = some r → avc Try.prog acwToPExprSS_L0 (qwToPExprSS_1 r) (stwToPExprSS_L0 p0 x4 b7_0)) := by
 refine wToPSort.mutual_partial_correctness (fun p0 r => ACalls Try.prog 50 [(vGPSort p0)] [] fun x _ => x = (fun y => (vGPSort y)) r) (fun p0 r => ACalls Try.prog 7 [(vGPExpr p0)] [] fun x _ => x = (fun y => (vGPExpr y)) r) (fun p0 r => ACalls Try.prog 21 [(.d (.sl 8 (p0.map cGPlan)))] [] fun x _ => x = (fun y => (.d (.sl 8 (y.map cGPlan)))) r) (fun p0 x4 b7_0 r => avc Try.prog acwToPlanS_L0 (qwToPlanS_1 r) (stwToPlanS_L0 p0 x4 b7_0)) (fun p0 r => ACalls Try.prog 12 [(vGPlan p0)] [] fun x _ => x = (fun y => (vGPlan y)) r) (fun p0 r => ACalls Try.prog 34 [(.d (.sl 11 (p0.map cGPSort)))] [] fun x _ => x = (fun y => (.d (.sl 11 (y.map cGPSort)))) r) (fun p0 x4 b7_0 r => avc Try.prog acwToPSortS_L0 (qwToPSortS_1 r) (stwToPSortS_L0 p0 x4 b7_0)) (fun p0 r => ACalls Try.prog 20 [(.d (.sl 10 (p0.map cGPExpr)))] [] fun x _ => x = (fun y => (.d (.sl 10 (y.map cGPExpr)))) r) (fun p0 x4 b7_0 r => avc Try.prog acwToPExprS_L0 (qwToPExprS_1 r) (stwToPExprS_L0 p0 x4 b7_0)) (fun p0 r => ACalls Try.prog 33 [(.d (.sl 1 (p0.map (cSl 10 cGPExpr))))] [] fun x _ => x = (fun y => (.d (.sl 1 (y.map (cSl 10 cGPExpr))))) r) (fun p0 x4 b7_0 r => avc Try.prog acwToPExprSS_L0 (qwToPExprSS_1 r) (stwToPExprSS_L0 p0 x4 b7_0)) ?_ ?_ ?_ ?_ ?_ ?_ ?_ ?_ ?_ ?_ ?_
 · intro F_wToPExpr OK_wToPExpr p0 r h
   refine acalls_of_fn trwToPSort (Nat.le_of_ble_eq_true rfl) (by simp) ?_
   show avc Try.prog acwToPSort (qwToPSort _) ⟨[(0, (vGPSort p0))], []⟩
   delta acwToPSort
   refine so ?_
   let a0 : St := ⟨[(2, (.ptr 2 0)), (1, (.ptr 1 0)), (0, (vGPSort p0))], [(2, [(vI 0), (vI 0), (vB false), (vI 0), (vI 0), (vS []), (vI 0), (vI 0), (.nil 10), (.nil 8), (vB false)]), (1, bGPSort p0)]⟩
   refine st 2 a0 (nx (so ?_))
   let a1 : St := ⟨(3, (.ptr 3 0)) :: a0.env, [(3, [(vI 0), (vI 0), (vB false), (vI 0), (vI 0), (vS []), (vI 0), (vI 0), (.nil 10), (.nil 8), (vB false)]), (2, [(vI 0), (vI 0), (vB false), (vI 0), (vI 0), (vS []), (vI 0), (vI 0), (.nil 10), (.nil 8), (vB false)]), (1, bGPSort p0)]⟩
   refine st 1 a1 (nx (so ?_))
   let a2 : St := a1.p [(5, (vGPExpr p0.expr)), (4, (.ptr 1 0))]
   refine st 2 a2 (cs h (OK_wToPExpr p0.expr) fun y1 h => ?_)
   let a3 : St := ⟨(7, (.ptr 3 0)) :: (6, (vGPExpr y1)) :: a2.env, [(3, [(vI y1.kind), (vI y1.op), (vB y1.not_), (vI y1.value.kind), (vI y1.value.num), (vS y1.value.text), (vI y1.up), (vI y1.at_), (.d (.sl 10 (y1.kids.map cGPExpr))), (.d (.sl 8 (y1.sub.map cGPlan))), (vB false)]), (2, [(vI 0), (vI 0), (vB false), (vI 0), (vI 0), (vS []), (vI 0), (vI 0), (.nil 10), (.nil 8), (vB false)]), (1, bGPSort p0)]⟩
   refine st 2 a3 (nx (so ?_))
   let a4 : St := ⟨(10, (.ptr 3 10)) :: (9, (vB p0.desc)) :: (8, (.ptr 1 10)) :: a3.env, [(3, [(vI y1.kind), (vI y1.op), (vB y1.not_), (vI y1.value.kind), (vI y1.value.num), (vS y1.value.text), (vI y1.up), (vI y1.at_), (.d (.sl 10 (y1.kids.map cGPExpr))), (.d (.sl 8 (y1.sub.map cGPlan))), (vB p0.desc)]), (2, [(vI 0), (vI 0), (vB false), (vI 0), (vI 0), (vS []), (vI 0), (vI 0), (.nil 10), (.nil 8), (vB false)]), (1, bGPSort p0)]⟩
   refine st 4 a4 (nx (so ?_))
   let a5 : St := ⟨(11, (vGPSort (GPSort.mk y1 p0.desc))) :: a4.env, [(3, [(vI y1.kind), (vI y1.op), (vB y1.not_), (vI y1.value.kind), (vI y1.value.num), (vS y1.value.text), (vI y1.up), (vI y1.at_), (.d (.sl 10 (y1.kids.map cGPExpr))), (.d (.sl 8 (y1.sub.map cGPlan))), (vB p0.desc)]), (2, bGPSort (GPSort.mk y1 p0.desc)), (1, bGPSort p0)]⟩
   refine st 2 a5 (nx (ri ?_))
   injection h with h; subst h
   exact ret1_step (v := (vGPSort (GPSort.mk y1 p0.desc))) (by kernel_rfl) (by kernel_rfl) (by kernel_rfl)
 · intro F_wToPlanS F_wToPExprS OK_wToPlanS OK_wToPExprS p0 r h
   refine acalls_of_fn trwToPExpr (Nat.le_of_ble_eq_true rfl) (by simp) ?_
   show avc Try.prog acwToPExpr (qwToPExpr _) ⟨[(0, (vGPExpr p0))], []⟩
   delta acwToPExpr
   refine so ?_
   let a0 : St := ⟨[(2, (.ptr 2 0)), (1, (.ptr 1 0)), (0, (vGPExpr p0))], [(2, [(vI 0), (vI 0), (vB false), (vI 0), (vI 0), (vS []), (vI 0), (vI 0), (.nil 10), (.nil 8)]), (1, bGPExpr p0)]⟩
   refine st 2 a0 (nx (so ?_))
   let a1 : St := ⟨(3, (.ptr 3 0)) :: a0.env, [(3, [(vI 0), (vI 0), (vB false), (vI 0), (vI 0), (vS []), (vI 0), (vI 0), (.nil 10), (.nil 8)]), (2, [(vI 0), (vI 0), (vB false), (vI 0), (vI 0), (vS []), (vI 0), (vI 0), (.nil 10), (.nil 8)]), (1, bGPExpr p0)]⟩
   refine st 1 a1 (nx (so ?_))
   let a2 : St := ⟨(6, (.ptr 3 0)) :: (5, (vI p0.kind)) :: (4, (.ptr 1 0)) :: a1.env, [(3, [(vI p0.kind), (vI 0), (vB false), (vI 0), (vI 0), (vS []), (vI 0), (vI 0), (.nil 10), (.nil 8)]), (2, [(vI 0), (vI 0), (vB false), (vI 0), (vI 0), (vS []), (vI 0), (vI 0), (.nil 10), (.nil 8)]), (1, bGPExpr p0)]⟩
   refine st 4 a2 (nx (so ?_))
   let a3 : St := ⟨(9, (.ptr 3 1)) :: (8, (vI p0.op)) :: (7, (.ptr 1 1)) :: a2.env, [(3, [(vI p0.kind), (vI p0.op), (vB false), (vI 0), (vI 0), (vS []), (vI 0), (vI 0), (.nil 10), (.nil 8)]), (2, [(vI 0), (vI 0), (vB false), (vI 0), (vI 0), (vS []), (vI 0), (vI 0), (.nil 10), (.nil 8)]), (1, bGPExpr p0)]⟩
   refine st 4 a3 (nx (so ?_))
   let a4 : St := ⟨(12, (.ptr 3 2)) :: (11, (vB p0.not_)) :: (10, (.ptr 1 2)) :: a3.env, [(3, [(vI p0.kind), (vI p0.op), (vB p0.not_), (vI 0), (vI 0), (vS []), (vI 0), (vI 0), (.nil 10), (.nil 8)]), (2, [(vI 0), (vI 0), (vB false), (vI 0), (vI 0), (vS []), (vI 0), (vI 0), (.nil 10), (.nil 8)]), (1, bGPExpr p0)]⟩
   refine st 4 a4 (nx (so ?_))
   let a5 : St := a4.p [(14, (vGValue p0.value)), (13, (.ptr 1 3))]
   refine st 2 a5 (cs h (OK_wToValue p0.value) fun y1 h => ?_)
   let a6 : St := ⟨(16, (.ptr 3 3)) :: (15, (vGValue y1)) :: a5.env, [(3, [(vI p0.kind), (vI p0.op), (vB p0.not_), (vI y1.kind), (vI y1.num), (vS y1.text), (vI 0), (vI 0), (.nil 10), (.nil 8)]), (2, [(vI 0), (vI 0), (vB false), (vI 0), (vI 0), (vS []), (vI 0), (vI 0), (.nil 10), (.nil 8)]), (1, bGPExpr p0)]⟩
   refine st 2 a6 (nx (so ?_))
   let a7 : St := ⟨(19, (.ptr 3 6)) :: (18, (vI p0.up)) :: (17, (.ptr 1 6)) :: a6.env, [(3, [(vI p0.kind), (vI p0.op), (vB p0.not_), (vI y1.kind), (vI y1.num), (vS y1.text), (vI p0.up), (vI 0), (.nil 10), (.nil 8)]), (2, [(vI 0), (vI 0), (vB false), (vI 0), (vI 0), (vS []), (vI 0), (vI 0), (.nil 10), (.nil 8)]), (1, bGPExpr p0)]⟩
   refine st 4 a7 (nx (so ?_))
   let a8 : St := ⟨(22, (.ptr 3 7)) :: (21, (vI p0.at_)) :: (20, (.ptr 1 7)) :: a7.env, [(3, [(vI p0.kind), (vI p0.op), (vB p0.not_), (vI y1.kind), (vI y1.num), (vS y1.text), (vI p0.up), (vI p0.at_), (.nil 10), (.nil 8)]), (2, [(vI 0), (vI 0), (vB false), (vI 0), (vI 0), (vS []), (vI 0), (vI 0), (.nil 10), (.nil 8)]), (1, bGPExpr p0)]⟩
   refine st 4 a8 (nx (so ?_))
   let a9 : St := a8.p [(24, (.d (.sl 10 (p0.kids.map cGPExpr)))), (23, (.ptr 1 8))]
   refine st 2 a9 (cs h (OK_wToPExprS p0.kids) fun y2 h => ?_)
   let a10 : St := ⟨(26, (.ptr 3 8)) :: (25, (.d (.sl 10 (y2.map cGPExpr)))) :: a9.env, [(3, [(vI p0.kind), (vI p0.op), (vB p0.not_), (vI y1.kind), (vI y1.num), (vS y1.text), (vI p0.up), (vI p0.at_), (.d (.sl 10 (y2.map cGPExpr))), (.nil 8)]), (2, [(vI 0), (vI 0), (vB false), (vI 0), (vI 0), (vS []), (vI 0), (vI 0), (.nil 10), (.nil 8)]), (1, bGPExpr p0)]⟩
   refine st 2 a10 (nx (so ?_))
   let a11 : St := a10.p [(28, (.d (.sl 8 (p0.sub.map cGPlan)))), (27, (.ptr 1 9))]
   refine st 2 a11 (cs h (OK_wToPlanS p0.sub) fun y3 h => ?_)
   let a12 : St := ⟨(30, (.ptr 3 9)) :: (29, (.d (.sl 8 (y3.map cGPlan)))) :: a11.env, [(3, [(vI p0.kind), (vI p0.op), (vB p0.not_), (vI y1.kind), (vI y1.num), (vS y1.text), (vI p0.up), (vI p0.at_), (.d (.sl 10 (y2.map cGPExpr))), (.d (.sl 8 (y3.map cGPlan)))]), (2, [(vI 0), (vI 0), (vB false), (vI 0), (vI 0), (vS []), (vI 0), (vI 0), (.nil 10), (.nil 8)]), (1, bGPExpr p0)]⟩
   refine st 2 a12 (nx (so ?_))
   let a13 : St := ⟨(31, (vGPExpr (GPExpr.mk p0.kind p0.op p0.not_ y1 p0.up p0.at_ y2 y3))) :: a12.env, [(3, [(vI p0.kind), (vI p0.op), (vB p0.not_), (vI y1.kind), (vI y1.num), (vS y1.text), (vI p0.up), (vI p0.at_), (.d (.sl 10 (y2.map cGPExpr))), (.d (.sl 8 (y3.map cGPlan)))]), (2, bGPExpr (GPExpr.mk p0.kind p0.op p0.not_ y1 p0.up p0.at_ y2 y3)), (1, bGPExpr p0)]⟩
   refine st 2 a13 (nx (ri ?_))
   injection h with h; subst h
   exact ret1_step (v := (vGPExpr (GPExpr.mk p0.kind p0.op p0.not_ y1 p0.up p0.at_ y2 y3))) (by kernel_rfl) (by kernel_rfl) (by kernel_rfl)
 · intro F_wToPlanS_L0 OK_wToPlanS_L0 p0 r h
   refine acalls_of_fn trwToPlanS (Nat.le_of_ble_eq_true rfl) (by simp) ?_
   show avc Try.prog acwToPlanS (qwToPlanS _) ⟨[(0, (.d (.sl 8 (p0.map cGPlan))))], []⟩
   delta acwToPlanS
   refine so ?_
   let a0 : St := ⟨[(2, (.nil 8)), (0, (.d (.sl 8 (p0.map cGPlan))))], []⟩
   refine st 1 a0 (nx (so ?_))
   let a1 : St := a0.p [(5, (.d (.sl 8 (p0.map cGPlan))))]
   refine st 1 a1 (ps (vI (p0.length : Int)) (vop_len (sz := 8) (l := p0) (f := cGPlan) (by kernel_rfl) (by kernel_rfl)) ?_)
   refine mks_step (k := .i64) (k' := .i64) (z := ((GPlan.mk ([] : List Int) ([] : List (List GPExpr)) ([] : List GPExpr) ([] : List GPSort) ([] : List GPExpr) ([] : List (List UInt8)) false 0) : GPlan)) (f := cGPlan) (S' := fun y => ⟨(7, (.msl 7 8 0 y.length y.length)) :: (6, (vI (p0.length : Int))) :: a1.env, [(7, rowsV (y.map cGPlan))]⟩) h (by kernel_rfl) (by kernel_rfl) (by kernel_rfl) (by kernel_rfl) (by kernel_rfl) (fun y => by kernel_rfl) ?_
   clear h; intro y1 h
   let a2 : St := ⟨(3, (.msl 7 8 0 y1.length y1.length)) :: (7, (.msl 7 8 0 y1.length y1.length)) :: (6, (vI (p0.length : Int))) :: a1.env, [(7, rowsV (y1.map cGPlan))]⟩
   refine st 1 a2 (nx (si (so ?_)))
   let a3 : St := a2.p [(4, (vI 0))]
   exact st 1 a3 (nx (bi (loop_go (s' := stwToPlanS_L0 p0 0 y1) (wr [] (es (es (es er_nil))) (br_rows (by kernel_rfl) br_nil)) (OK_wToPlanS_L0 p0 0 y1 _ h))))
 · intro F_wToPlanS_L0 F_wToPlan OK_wToPlanS_L0 OK_wToPlan p0 x4 b7_0 r h
   delta acwToPlanS_L0
   refine loop_unroll (si (so ?_))
   let a4 : St := (stwToPlanS_L0 p0 x4 b7_0).p [(9, (.d (.sl 8 (p0.map cGPlan)))), (8, (vI x4))]
   refine st 2 a4 (ps (vI (p0.length : Int)) (vop_len (sz := 8) (l := p0) (f := cGPlan) (by kernel_rfl) (by kernel_rfl)) ?_)
   let a5 : St := a4.p [(11, (vB (decide (x4 < (p0.length : Int))))), (10, (vI (p0.length : Int)))]
   refine st 1 a5 (nx ?_)
   refine cd h (fun h => ?_) fun h => ?_
   refine ki (xi (si (bi (oi ?_))))
   let a6 : St := a5.p [(17, (vI x4)), (16, (.d (.sl 8 (p0.map cGPlan)))), (15, (vI x4)), (14, (.msl 7 8 0 b7_0.length b7_0.length))]
   refine st 4 a6 (vs (fun (y : GPlan) => (.rp (oGPlan y))) h (fun y hy => vop_ia (l := p0) (f := cGPlan) (g := oGPlan) (k := .i64) hy cGPlan_eq (by kernel_rfl) (by kernel_rfl) (by kernel_rfl)) fun y2 h => ?_)
   let a7 : St := a6.p [(19, (vGPlan y2)), (18, (.rp (oGPlan y2)))]
   refine st 1 a7 (cs h (OK_wToPlan y2) fun y3 h => (vs (fun (y : GPlan) => (.ptr 7 ((0 + (x4).toNat) * 8))) h (fun y hy => vop_iaE (l := b7_0) (k := .i64) hy (by kernel_rfl) (by kernel_rfl) (by kernel_rfl)) fun y4 h => ?_))
   refine sti_step (b := 7) (i := x4) (l := b7_0) (v := y3) (f := cGPlan) (u := (vGPlan y3)) (T := fun y m => ⟨[(21, (.ptr 7 ((0 + (x4).toNat) * 8))), (20, (vGPlan y3)), (19, (vGPlan y2)), (18, (.rp (oGPlan y2))), (17, (vI x4)), (16, (.d (.sl 8 (p0.map cGPlan)))), (15, (vI x4)), (14, (.msl 7 8 0 m m)), (11, (vB (decide (x4 < (p0.length : Int))))), (10, (vI (p0.length : Int))), (9, (.d (.sl 8 (p0.map cGPlan)))), (8, (vI x4)), (0, (.d (.sl 8 (p0.map cGPlan)))), (3, (.msl 7 8 0 m m)), (4, (vI x4))], [(7, rowsV (y.map cGPlan))]⟩) h (by kernel_rfl) (by kernel_rfl) (by kernel_rfl) (congrArg (List.map V.d) (cGPlan_eq y3).symm) (fun y => (congrArg List.length (cGPlan_eq y)).trans rfl) (by kernel_rfl) (fun y => by kernel_rfl) ?_
   clear h; intro y5 h
   refine ni (bn (xi (oi ?_)))
   let a8 : St := ⟨[(4, (vI (IntKind.wrap .i64 (x4 + 1)))), (13, (vI (IntKind.wrap .i64 (x4 + 1)))), (12, (vI x4)), (21, (.ptr 7 ((0 + (x4).toNat) * 8))), (20, (vGPlan y3)), (19, (vGPlan y2)), (18, (.rp (oGPlan y2))), (17, (vI x4)), (16, (.d (.sl 8 (p0.map cGPlan)))), (15, (vI x4)), (14, (.msl 7 8 0 y5.length y5.length)), (11, (vB (decide (x4 < (p0.length : Int))))), (10, (vI (p0.length : Int))), (9, (.d (.sl 8 (p0.map cGPlan)))), (8, (vI x4)), (0, (.d (.sl 8 (p0.map cGPlan)))), (3, (.msl 7 8 0 y5.length y5.length)), (4, (vI x4))], [(7, rowsV (y5.map cGPlan))]⟩
   exact st 3 a8 (ni (loop_back (s' := stwToPlanS_L0 p0 (IntKind.wrap .i64 (x4 + 1)) y5) (wr [] (es (es (es er_nil))) (br_rows (by kernel_rfl) br_nil)) (OK_wToPlanS_L0 p0 (IntKind.wrap .i64 (x4 + 1)) y5 _ h)))
   refine ei (te (te (bh (xi (so ?_)))))
   let a9 : St := a5.p [(2, (.msl 7 8 0 b7_0.length b7_0.length)), (22, (.msl 7 8 0 b7_0.length b7_0.length))]
   refine st 2 a9 (nx (ret_frz (n := 7) (sz := 8) (l := b7_0) (f := cGPlan) (s' := ⟨[(2, (.d (.sl 8 (b7_0.map cGPlan))))], []⟩) (by decide) (fun y => (congrArg List.length (cGPlan_eq y)).trans rfl) (by kernel_rfl) (⟨.inr ⟨b7_0.length, b7_0.length, by kernel_rfl, lms b7_0 _, by kernel_rfl⟩, trivial⟩) (trivial) (ri ?_)))
   injection h with h; subst h
   exact ret1_step (v := (.d (.sl 8 (b7_0.map cGPlan)))) (by kernel_rfl) (by kernel_rfl) (by kernel_rfl)
 · intro F_wToPSortS F_wToPExprS F_wToPExprSS OK_wToPSortS OK_wToPExprS OK_wToPExprSS p0 r h
   refine acalls_of_fn trwToPlan (Nat.le_of_ble_eq_true rfl) (by simp) ?_
   show avc Try.prog acwToPlan (qwToPlan _) ⟨[(0, (vGPlan p0))], []⟩
   delta acwToPlan
   refine so ?_
   let a0 : St := ⟨[(2, (.ptr 2 0)), (1, (.ptr 1 0)), (0, (vGPlan p0))], [(2, [(.nil 1), (.nil 1), (.nil 10), (.nil 11), (.nil 10), (.nil 1), (vB false), (vI 0)]), (1, bGPlan p0)]⟩
   refine st 2 a0 (nx (so ?_))
   let a1 : St := ⟨(3, (.ptr 3 0)) :: a0.env, [(3, [(.nil 1), (.nil 1), (.nil 10), (.nil 11), (.nil 10), (.nil 1), (vB false), (vI 0)]), (2, [(.nil 1), (.nil 1), (.nil 10), (.nil 11), (.nil 10), (.nil 1), (vB false), (vI 0)]), (1, bGPlan p0)]⟩
   refine st 1 a1 (nx (so ?_))
   let a2 : St := a1.p [(5, (.d (.sl 1 (p0.tables.map cI)))), (4, (.ptr 1 0))]
   refine st 2 a2 (cs h (OK_wToIntS p0.tables) fun y1 h => ?_)
   let a3 : St := ⟨(7, (.ptr 3 0)) :: (6, (.d (.sl 1 (y1.map cI)))) :: a2.env, [(3, [(.d (.sl 1 (y1.map cI))), (.nil 1), (.nil 10), (.nil 11), (.nil 10), (.nil 1), (vB false), (vI 0)]), (2, [(.nil 1), (.nil 1), (.nil 10), (.nil 11), (.nil 10), (.nil 1), (vB false), (vI 0)]), (1, bGPlan p0)]⟩
   refine st 2 a3 (nx (so ?_))
   let a4 : St := a3.p [(9, (.d (.sl 1 (p0.on_.map (cSl 10 cGPExpr))))), (8, (.ptr 1 1))]
   refine st 2 a4 (cs h (OK_wToPExprSS p0.on_) fun y2 h => ?_)
   let a5 : St := ⟨(11, (.ptr 3 1)) :: (10, (.d (.sl 1 (y2.map (cSl 10 cGPExpr))))) :: a4.env, [(3, [(.d (.sl 1 (y1.map cI))), (.d (.sl 1 (y2.map (cSl 10 cGPExpr)))), (.nil 10), (.nil 11), (.nil 10), (.nil 1), (vB false), (vI 0)]), (2, [(.nil 1), (.nil 1), (.nil 10), (.nil 11), (.nil 10), (.nil 1), (vB false), (vI 0)]), (1, bGPlan p0)]⟩
   refine st 2 a5 (nx (so ?_))
   let a6 : St := a5.p [(13, (.d (.sl 10 (p0.where_.map cGPExpr)))), (12, (.ptr 1 2))]
   refine st 2 a6 (cs h (OK_wToPExprS p0.where_) fun y3 h => ?_)
   let a7 : St := ⟨(15, (.ptr 3 2)) :: (14, (.d (.sl 10 (y3.map cGPExpr)))) :: a6.env, [(3, [(.d (.sl 1 (y1.map cI))), (.d (.sl 1 (y2.map (cSl 10 cGPExpr)))), (.d (.sl 10 (y3.map cGPExpr))), (.nil 11), (.nil 10), (.nil 1), (vB false), (vI 0)]), (2, [(.nil 1), (.nil 1), (.nil 10), (.nil 11), (.nil 10), (.nil 1), (vB false), (vI 0)]), (1, bGPlan p0)]⟩
   refine st 2 a7 (nx (so ?_))
   let a8 : St := a7.p [(17, (.d (.sl 11 (p0.order.map cGPSort)))), (16, (.ptr 1 3))]
   refine st 2 a8 (cs h (OK_wToPSortS p0.order) fun y4 h => ?_)
   let a9 : St := ⟨(19, (.ptr 3 3)) :: (18, (.d (.sl 11 (y4.map cGPSort)))) :: a8.env, [(3, [(.d (.sl 1 (y1.map cI))), (.d (.sl 1 (y2.map (cSl 10 cGPExpr)))), (.d (.sl 10 (y3.map cGPExpr))), (.d (.sl 11 (y4.map cGPSort))), (.nil 10), (.nil 1), (vB false), (vI 0)]), (2, [(.nil 1), (.nil 1), (.nil 10), (.nil 11), (.nil 10), (.nil 1), (vB false), (vI 0)]), (1, bGPlan p0)]⟩
   refine st 2 a9 (nx (so ?_))
   let a10 : St := a9.p [(21, (.d (.sl 10 (p0.items.map cGPExpr)))), (20, (.ptr 1 4))]
   refine st 2 a10 (cs h (OK_wToPExprS p0.items) fun y5 h => ?_)
   let a11 : St := ⟨(23, (.ptr 3 4)) :: (22, (.d (.sl 10 (y5.map cGPExpr)))) :: a10.env, [(3, [(.d (.sl 1 (y1.map cI))), (.d (.sl 1 (y2.map (cSl 10 cGPExpr)))), (.d (.sl 10 (y3.map cGPExpr))), (.d (.sl 11 (y4.map cGPSort))), (.d (.sl 10 (y5.map cGPExpr))), (.nil 1), (vB false), (vI 0)]), (2, [(.nil 1), (.nil 1), (.nil 10), (.nil 11), (.nil 10), (.nil 1), (vB false), (vI 0)]), (1, bGPlan p0)]⟩
   refine st 2 a11 (nx (so ?_))
   let a12 : St := a11.p [(25, (.d (.sl 1 (p0.names.map cStr)))), (24, (.ptr 1 5))]
   refine st 2 a12 (cs h (OK_wToStringS p0.names) fun y6 h => ?_)
   let a13 : St := ⟨(27, (.ptr 3 5)) :: (26, (.d (.sl 1 (y6.map cStr)))) :: a12.env, [(3, [(.d (.sl 1 (y1.map cI))), (.d (.sl 1 (y2.map (cSl 10 cGPExpr)))), (.d (.sl 10 (y3.map cGPExpr))), (.d (.sl 11 (y4.map cGPSort))), (.d (.sl 10 (y5.map cGPExpr))), (.d (.sl 1 (y6.map cStr))), (vB false), (vI 0)]), (2, [(.nil 1), (.nil 1), (.nil 10), (.nil 11), (.nil 10), (.nil 1), (vB false), (vI 0)]), (1, bGPlan p0)]⟩
   refine st 2 a13 (nx (so ?_))
   let a14 : St := ⟨(30, (.ptr 3 6)) :: (29, (vB p0.distinct)) :: (28, (.ptr 1 6)) :: a13.env, [(3, [(.d (.sl 1 (y1.map cI))), (.d (.sl 1 (y2.map (cSl 10 cGPExpr)))), (.d (.sl 10 (y3.map cGPExpr))), (.d (.sl 11 (y4.map cGPSort))), (.d (.sl 10 (y5.map cGPExpr))), (.d (.sl 1 (y6.map cStr))), (vB p0.distinct), (vI 0)]), (2, [(.nil 1), (.nil 1), (.nil 10), (.nil 11), (.nil 10), (.nil 1), (vB false), (vI 0)]), (1, bGPlan p0)]⟩
   refine st 4 a14 (nx (so ?_))
   let a15 : St := ⟨(33, (.ptr 3 7)) :: (32, (vI p0.limit)) :: (31, (.ptr 1 7)) :: a14.env, [(3, [(.d (.sl 1 (y1.map cI))), (.d (.sl 1 (y2.map (cSl 10 cGPExpr)))), (.d (.sl 10 (y3.map cGPExpr))), (.d (.sl 11 (y4.map cGPSort))), (.d (.sl 10 (y5.map cGPExpr))), (.d (.sl 1 (y6.map cStr))), (vB p0.distinct), (vI p0.limit)]), (2, [(.nil 1), (.nil 1), (.nil 10), (.nil 11), (.nil 10), (.nil 1), (vB false), (vI 0)]), (1, bGPlan p0)]⟩
   refine st 4 a15 (nx (so ?_))
   let a16 : St := ⟨(34, (vGPlan (GPlan.mk y1 y2 y3 y4 y5 y6 p0.distinct p0.limit))) :: a15.env, [(3, [(.d (.sl 1 (y1.map cI))), (.d (.sl 1 (y2.map (cSl 10 cGPExpr)))), (.d (.sl 10 (y3.map cGPExpr))), (.d (.sl 11 (y4.map cGPSort))), (.d (.sl 10 (y5.map cGPExpr))), (.d (.sl 1 (y6.map cStr))), (vB p0.distinct), (vI p0.limit)]), (2, bGPlan (GPlan.mk y1 y2 y3 y4 y5 y6 p0.distinct p0.limit)), (1, bGPlan p0)]⟩
   refine st 2 a16 (nx (ri ?_))
   injection h with h; subst h
   exact ret1_step (v := (vGPlan (GPlan.mk y1 y2 y3 y4 y5 y6 p0.distinct p0.limit))) (by kernel_rfl) (by kernel_rfl) (by kernel_rfl)
 · intro F_wToPSortS_L0 OK_wToPSortS_L0 p0 r h
   refine acalls_of_fn trwToPSortS (Nat.le_of_ble_eq_true rfl) (by simp) ?_
   show avc Try.prog acwToPSortS (qwToPSortS _) ⟨[(0, (.d (.sl 11 (p0.map cGPSort))))], []⟩
   delta acwToPSortS
   refine so ?_
   let a0 : St := ⟨[(2, (.nil 11)), (0, (.d (.sl 11 (p0.map cGPSort))))], []⟩
   refine st 1 a0 (nx (so ?_))
   let a1 : St := a0.p [(5, (.d (.sl 11 (p0.map cGPSort))))]
   refine st 1 a1 (ps (vI (p0.length : Int)) (vop_len (sz := 11) (l := p0) (f := cGPSort) (by kernel_rfl) (by kernel_rfl)) ?_)
   refine mks_step (k := .i64) (k' := .i64) (z := ((GPSort.mk (GPExpr.mk 0 0 false (GValue.mk 0 0 []) 0 0 ([] : List GPExpr) ([] : List GPlan)) false) : GPSort)) (f := cGPSort) (S' := fun y => ⟨(7, (.msl 7 11 0 y.length y.length)) :: (6, (vI (p0.length : Int))) :: a1.env, [(7, rowsV (y.map cGPSort))]⟩) h (by kernel_rfl) (by kernel_rfl) (by kernel_rfl) (by kernel_rfl) (by kernel_rfl) (fun y => by kernel_rfl) ?_
   clear h; intro y1 h
   let a2 : St := ⟨(3, (.msl 7 11 0 y1.length y1.length)) :: (7, (.msl 7 11 0 y1.length y1.length)) :: (6, (vI (p0.length : Int))) :: a1.env, [(7, rowsV (y1.map cGPSort))]⟩
   refine st 1 a2 (nx (si (so ?_)))
   let a3 : St := a2.p [(4, (vI 0))]
   exact st 1 a3 (nx (bi (loop_go (s' := stwToPSortS_L0 p0 0 y1) (wr [] (es (es (es er_nil))) (br_rows (by kernel_rfl) br_nil)) (OK_wToPSortS_L0 p0 0 y1 _ h))))
 · intro F_wToPSort F_wToPSortS_L0 OK_wToPSort OK_wToPSortS_L0 p0 x4 b7_0 r h
   delta acwToPSortS_L0
   refine loop_unroll (si (so ?_))
   let a4 : St := (stwToPSortS_L0 p0 x4 b7_0).p [(9, (.d (.sl 11 (p0.map cGPSort)))), (8, (vI x4))]
   refine st 2 a4 (ps (vI (p0.length : Int)) (vop_len (sz := 11) (l := p0) (f := cGPSort) (by kernel_rfl) (by kernel_rfl)) ?_)
   let a5 : St := a4.p [(11, (vB (decide (x4 < (p0.length : Int))))), (10, (vI (p0.length : Int)))]
   refine st 1 a5 (nx ?_)
   refine cd h (fun h => ?_) fun h => ?_
   refine ki (xi (si (bi (oi ?_))))
   let a6 : St := a5.p [(17, (vI x4)), (16, (.d (.sl 11 (p0.map cGPSort)))), (15, (vI x4)), (14, (.msl 7 11 0 b7_0.length b7_0.length))]
   refine st 4 a6 (vs (fun (y : GPSort) => (.rp (oGPSort y))) h (fun y hy => vop_ia (l := p0) (f := cGPSort) (g := oGPSort) (k := .i64) hy cGPSort_eq (by kernel_rfl) (by kernel_rfl) (by kernel_rfl)) fun y2 h => ?_)
   let a7 : St := a6.p [(19, (vGPSort y2)), (18, (.rp (oGPSort y2)))]
   refine st 1 a7 (cs h (OK_wToPSort y2) fun y3 h => (vs (fun (y : GPSort) => (.ptr 7 ((0 + (x4).toNat) * 11))) h (fun y hy => vop_iaE (l := b7_0) (k := .i64) hy (by kernel_rfl) (by kernel_rfl) (by kernel_rfl)) fun y4 h => ?_))
   refine sti_step (b := 7) (i := x4) (l := b7_0) (v := y3) (f := cGPSort) (u := (vGPSort y3)) (T := fun y m => ⟨[(21, (.ptr 7 ((0 + (x4).toNat) * 11))), (20, (vGPSort y3)), (19, (vGPSort y2)), (18, (.rp (oGPSort y2))), (17, (vI x4)), (16, (.d (.sl 11 (p0.map cGPSort)))), (15, (vI x4)), (14, (.msl 7 11 0 m m)), (11, (vB (decide (x4 < (p0.length : Int))))), (10, (vI (p0.length : Int))), (9, (.d (.sl 11 (p0.map cGPSort)))), (8, (vI x4)), (0, (.d (.sl 11 (p0.map cGPSort)))), (3, (.msl 7 11 0 m m)), (4, (vI x4))], [(7, rowsV (y.map cGPSort))]⟩) h (by kernel_rfl) (by kernel_rfl) (by kernel_rfl) (congrArg (List.map V.d) (cGPSort_eq y3).symm) (fun y => (congrArg List.length (cGPSort_eq y)).trans rfl) (by kernel_rfl) (fun y => by kernel_rfl) ?_
   clear h; intro y5 h
   refine ni (bn (xi (oi ?_)))
   let a8 : St := ⟨[(4, (vI (IntKind.wrap .i64 (x4 + 1)))), (13, (vI (IntKind.wrap .i64 (x4 + 1)))), (12, (vI x4)), (21, (.ptr 7 ((0 + (x4).toNat) * 11))), (20, (vGPSort y3)), (19, (vGPSort y2)), (18, (.rp (oGPSort y2))), (17, (vI x4)), (16, (.d (.sl 11 (p0.map cGPSort)))), (15, (vI x4)), (14, (.msl 7 11 0 y5.length y5.length)), (11, (vB (decide (x4 < (p0.length : Int))))), (10, (vI (p0.length : Int))), (9, (.d (.sl 11 (p0.map cGPSort)))), (8, (vI x4)), (0, (.d (.sl 11 (p0.map cGPSort)))), (3, (.msl 7 11 0 y5.length y5.length)), (4, (vI x4))], [(7, rowsV (y5.map cGPSort))]⟩
   exact st 3 a8 (ni (loop_back (s' := stwToPSortS_L0 p0 (IntKind.wrap .i64 (x4 + 1)) y5) (wr [] (es (es (es er_nil))) (br_rows (by kernel_rfl) br_nil)) (OK_wToPSortS_L0 p0 (IntKind.wrap .i64 (x4 + 1)) y5 _ h)))
   refine ei (te (te (bh (xi (so ?_)))))
   let a9 : St := a5.p [(2, (.msl 7 11 0 b7_0.length b7_0.length)), (22, (.msl 7 11 0 b7_0.length b7_0.length))]
   refine st 2 a9 (nx (ret_frz (n := 7) (sz := 11) (l := b7_0) (f := cGPSort) (s' := ⟨[(2, (.d (.sl 11 (b7_0.map cGPSort))))], []⟩) (by decide) (fun y => (congrArg List.length (cGPSort_eq y)).trans rfl) (by kernel_rfl) (⟨.inr ⟨b7_0.length, b7_0.length, by kernel_rfl, lms b7_0 _, by kernel_rfl⟩, trivial⟩) (trivial) (ri ?_)))
   injection h with h; subst h
   exact ret1_step (v := (.d (.sl 11 (b7_0.map cGPSort)))) (by kernel_rfl) (by kernel_rfl) (by kernel_rfl)
 · intro F_wToPExprS_L0 OK_wToPExprS_L0 p0 r h
   refine acalls_of_fn trwToPExprS (Nat.le_of_ble_eq_true rfl) (by simp) ?_
   show avc Try.prog acwToPExprS (qwToPExprS _) ⟨[(0, (.d (.sl 10 (p0.map cGPExpr))))], []⟩
   delta acwToPExprS
   refine so ?_
   let a0 : St := ⟨[(2, (.nil 10)), (0, (.d (.sl 10 (p0.map cGPExpr))))], []⟩
   refine st 1 a0 (nx (so ?_))
   let a1 : St := a0.p [(5, (.d (.sl 10 (p0.map cGPExpr))))]
   refine st 1 a1 (ps (vI (p0.length : Int)) (vop_len (sz := 10) (l := p0) (f := cGPExpr) (by kernel_rfl) (by kernel_rfl)) ?_)
   refine mks_step (k := .i64) (k' := .i64) (z := ((GPExpr.mk 0 0 false (GValue.mk 0 0 []) 0 0 ([] : List GPExpr) ([] : List GPlan)) : GPExpr)) (f := cGPExpr) (S' := fun y => ⟨(7, (.msl 7 10 0 y.length y.length)) :: (6, (vI (p0.length : Int))) :: a1.env, [(7, rowsV (y.map cGPExpr))]⟩) h (by kernel_rfl) (by kernel_rfl) (by kernel_rfl) (by kernel_rfl) (by kernel_rfl) (fun y => by kernel_rfl) ?_
   clear h; intro y1 h
   let a2 : St := ⟨(3, (.msl 7 10 0 y1.length y1.length)) :: (7, (.msl 7 10 0 y1.length y1.length)) :: (6, (vI (p0.length : Int))) :: a1.env, [(7, rowsV (y1.map cGPExpr))]⟩
   refine st 1 a2 (nx (si (so ?_)))
   let a3 : St := a2.p [(4, (vI 0))]
   exact st 1 a3 (nx (bi (loop_go (s' := stwToPExprS_L0 p0 0 y1) (wr [] (es (es (es er_nil))) (br_rows (by kernel_rfl) br_nil)) (OK_wToPExprS_L0 p0 0 y1 _ h))))
 · intro F_wToPExpr F_wToPExprS_L0 OK_wToPExpr OK_wToPExprS_L0 p0 x4 b7_0 r h
   delta acwToPExprS_L0
   refine loop_unroll (si (so ?_))
   let a4 : St := (stwToPExprS_L0 p0 x4 b7_0).p [(9, (.d (.sl 10 (p0.map cGPExpr)))), (8, (vI x4))]
   refine st 2 a4 (ps (vI (p0.length : Int)) (vop_len (sz := 10) (l := p0) (f := cGPExpr) (by kernel_rfl) (by kernel_rfl)) ?_)
   let a5 : St := a4.p [(11, (vB (decide (x4 < (p0.length : Int))))), (10, (vI (p0.length : Int)))]
   refine st 1 a5 (nx ?_)
   refine cd h (fun h => ?_) fun h => ?_
   refine ki (xi (si (bi (oi ?_))))
   let a6 : St := a5.p [(17, (vI x4)), (16, (.d (.sl 10 (p0.map cGPExpr)))), (15, (vI x4)), (14, (.msl 7 10 0 b7_0.length b7_0.length))]
   refine st 4 a6 (vs (fun (y : GPExpr) => (.rp (oGPExpr y))) h (fun y hy => vop_ia (l := p0) (f := cGPExpr) (g := oGPExpr) (k := .i64) hy cGPExpr_eq (by kernel_rfl) (by kernel_rfl) (by kernel_rfl)) fun y2 h => ?_)
   let a7 : St := a6.p [(19, (vGPExpr y2)), (18, (.rp (oGPExpr y2)))]
   refine st 1 a7 (cs h (OK_wToPExpr y2) fun y3 h => (vs (fun (y : GPExpr) => (.ptr 7 ((0 + (x4).toNat) * 10))) h (fun y hy => vop_iaE (l := b7_0) (k := .i64) hy (by kernel_rfl) (by kernel_rfl) (by kernel_rfl)) fun y4 h => ?_))
   refine sti_step (b := 7) (i := x4) (l := b7_0) (v := y3) (f := cGPExpr) (u := (vGPExpr y3)) (T := fun y m => ⟨[(21, (.ptr 7 ((0 + (x4).toNat) * 10))), (20, (vGPExpr y3)), (19, (vGPExpr y2)), (18, (.rp (oGPExpr y2))), (17, (vI x4)), (16, (.d (.sl 10 (p0.map cGPExpr)))), (15, (vI x4)), (14, (.msl 7 10 0 m m)), (11, (vB (decide (x4 < (p0.length : Int))))), (10, (vI (p0.length : Int))), (9, (.d (.sl 10 (p0.map cGPExpr)))), (8, (vI x4)), (0, (.d (.sl 10 (p0.map cGPExpr)))), (3, (.msl 7 10 0 m m)), (4, (vI x4))], [(7, rowsV (y.map cGPExpr))]⟩) h (by kernel_rfl) (by kernel_rfl) (by kernel_rfl) (congrArg (List.map V.d) (cGPExpr_eq y3).symm) (fun y => (congrArg List.length (cGPExpr_eq y)).trans rfl) (by kernel_rfl) (fun y => by kernel_rfl) ?_
   clear h; intro y5 h
   refine ni (bn (xi (oi ?_)))
   let a8 : St := ⟨[(4, (vI (IntKind.wrap .i64 (x4 + 1)))), (13, (vI (IntKind.wrap .i64 (x4 + 1)))), (12, (vI x4)), (21, (.ptr 7 ((0 + (x4).toNat) * 10))), (20, (vGPExpr y3)), (19, (vGPExpr y2)), (18, (.rp (oGPExpr y2))), (17, (vI x4)), (16, (.d (.sl 10 (p0.map cGPExpr)))), (15, (vI x4)), (14, (.msl 7 10 0 y5.length y5.length)), (11, (vB (decide (x4 < (p0.length : Int))))), (10, (vI (p0.length : Int))), (9, (.d (.sl 10 (p0.map cGPExpr)))), (8, (vI x4)), (0, (.d (.sl 10 (p0.map cGPExpr)))), (3, (.msl 7 10 0 y5.length y5.length)), (4, (vI x4))], [(7, rowsV (y5.map cGPExpr))]⟩
   exact st 3 a8 (ni (loop_back (s' := stwToPExprS_L0 p0 (IntKind.wrap .i64 (x4 + 1)) y5) (wr [] (es (es (es er_nil))) (br_rows (by kernel_rfl) br_nil)) (OK_wToPExprS_L0 p0 (IntKind.wrap .i64 (x4 + 1)) y5 _ h)))
   refine ei (te (te (bh (xi (so ?_)))))
   let a9 : St := a5.p [(2, (.msl 7 10 0 b7_0.length b7_0.length)), (22, (.msl 7 10 0 b7_0.length b7_0.length))]
   refine st 2 a9 (nx (ret_frz (n := 7) (sz := 10) (l := b7_0) (f := cGPExpr) (s' := ⟨[(2, (.d (.sl 10 (b7_0.map cGPExpr))))], []⟩) (by decide) (fun y => (congrArg List.length (cGPExpr_eq y)).trans rfl) (by kernel_rfl) (⟨.inr ⟨b7_0.length, b7_0.length, by kernel_rfl, lms b7_0 _, by kernel_rfl⟩, trivial⟩) (trivial) (ri ?_)))
   injection h with h; subst h
   exact ret1_step (v := (.d (.sl 10 (b7_0.map cGPExpr)))) (by kernel_rfl) (by kernel_rfl) (by kernel_rfl)
 · intro F_wToPExprSS_L0 OK_wToPExprSS_L0 p0 r h
   refine acalls_of_fn trwToPExprSS (Nat.le_of_ble_eq_true rfl) (by simp) ?_
   show avc Try.prog acwToPExprSS (qwToPExprSS _) ⟨[(0, (.d (.sl 1 (p0.map (cSl 10 cGPExpr)))))], []⟩
   delta acwToPExprSS
   refine so ?_
   let a0 : St := ⟨[(2, (.nil 1)), (0, (.d (.sl 1 (p0.map (cSl 10 cGPExpr)))))], []⟩
   refine st 1 a0 (nx (so ?_))
   let a1 : St := a0.p [(5, (.d (.sl 1 (p0.map (cSl 10 cGPExpr)))))]
   refine st 1 a1 (ps (vI (p0.length : Int)) (vop_len (sz := 1) (l := p0) (f := (cSl 10 cGPExpr)) (by kernel_rfl) (by kernel_rfl)) ?_)
   refine mks_step (k := .i64) (k' := .i64) (z := (([] : List GPExpr) : (List GPExpr))) (f := (cSl 10 cGPExpr)) (S' := fun y => ⟨(7, (.msl 7 1 0 y.length y.length)) :: (6, (vI (p0.length : Int))) :: a1.env, [(7, rowsV (y.map (cSl 10 cGPExpr)))]⟩) h (by kernel_rfl) (by kernel_rfl) (by kernel_rfl) (by kernel_rfl) (by kernel_rfl) (fun y => by kernel_rfl) ?_
   clear h; intro y1 h
   let a2 : St := ⟨(3, (.msl 7 1 0 y1.length y1.length)) :: (7, (.msl 7 1 0 y1.length y1.length)) :: (6, (vI (p0.length : Int))) :: a1.env, [(7, rowsV (y1.map (cSl 10 cGPExpr)))]⟩
   refine st 1 a2 (nx (si (so ?_)))
   let a3 : St := a2.p [(4, (vI 0))]
   exact st 1 a3 (nx (bi (loop_go (s' := stwToPExprSS_L0 p0 0 y1) (wr [] (es (es (es er_nil))) (br_rows (by kernel_rfl) br_nil)) (OK_wToPExprSS_L0 p0 0 y1 _ h))))
 · intro F_wToPExprS F_wToPExprSS_L0 OK_wToPExprS OK_wToPExprSS_L0 p0 x4 b7_0 r h
   delta acwToPExprSS_L0
   refine loop_unroll (si (so ?_))
   let a4 : St := (stwToPExprSS_L0 p0 x4 b7_0).p [(9, (.d (.sl 1 (p0.map (cSl 10 cGPExpr))))), (8, (vI x4))]
   refine st 2 a4 (ps (vI (p0.length : Int)) (vop_len (sz := 1) (l := p0) (f := (cSl 10 cGPExpr)) (by kernel_rfl) (by kernel_rfl)) ?_)
   let a5 : St := a4.p [(11, (vB (decide (x4 < (p0.length : Int))))), (10, (vI (p0.length : Int)))]
   refine st 1 a5 (nx ?_)
   refine cd h (fun h => ?_) fun h => ?_
   refine ki (xi (si (bi (oi ?_))))
   let a6 : St := a5.p [(17, (vI x4)), (16, (.d (.sl 1 (p0.map (cSl 10 cGPExpr))))), (15, (vI x4)), (14, (.msl 7 1 0 b7_0.length b7_0.length))]
   refine st 4 a6 (vs (fun (y : (List GPExpr)) => (.rp [(.sl 10 (y.map cGPExpr))])) h (fun y hy => vop_ia (l := p0) (f := (cSl 10 cGPExpr)) (g := (cSl 10 cGPExpr)) (k := .i64) hy (fun _ => rfl) (by kernel_rfl) (by kernel_rfl) (by kernel_rfl)) fun y2 h => ?_)
   let a7 : St := a6.p [(19, (.d (.sl 10 (y2.map cGPExpr)))), (18, (.rp [(.sl 10 (y2.map cGPExpr))]))]
   refine st 1 a7 (cs h (OK_wToPExprS y2) fun y3 h => (vs (fun (y : (List GPExpr)) => (.ptr 7 ((0 + (x4).toNat) * 1))) h (fun y hy => vop_iaE (l := b7_0) (k := .i64) hy (by kernel_rfl) (by kernel_rfl) (by kernel_rfl)) fun y4 h => ?_))
   refine sti_step (b := 7) (i := x4) (l := b7_0) (v := y3) (f := (cSl 10 cGPExpr)) (u := (.d (.sl 10 (y3.map cGPExpr)))) (T := fun y m => ⟨[(21, (.ptr 7 ((0 + (x4).toNat) * 1))), (20, (.d (.sl 10 (y3.map cGPExpr)))), (19, (.d (.sl 10 (y2.map cGPExpr)))), (18, (.rp [(.sl 10 (y2.map cGPExpr))])), (17, (vI x4)), (16, (.d (.sl 1 (p0.map (cSl 10 cGPExpr))))), (15, (vI x4)), (14, (.msl 7 1 0 m m)), (11, (vB (decide (x4 < (p0.length : Int))))), (10, (vI (p0.length : Int))), (9, (.d (.sl 1 (p0.map (cSl 10 cGPExpr))))), (8, (vI x4)), (0, (.d (.sl 1 (p0.map (cSl 10 cGPExpr))))), (3, (.msl 7 1 0 m m)), (4, (vI x4))], [(7, rowsV (y.map (cSl 10 cGPExpr)))]⟩) h (by kernel_rfl) (by kernel_rfl) (by kernel_rfl) (by kernel_rfl) (fun y => (congrArg List.length ((fun _ => rfl) y)).trans rfl) (by kernel_rfl) (fun y => by kernel_rfl) ?_
   clear h; intro y5 h
   refine ni (bn (xi (oi ?_)))
   let a8 : St := ⟨[(4, (vI (IntKind.wrap .i64 (x4 + 1)))), (13, (vI (IntKind.wrap .i64 (x4 + 1)))), (12, (vI x4)), (21, (.ptr 7 ((0 + (x4).toNat) * 1))), (20, (.d (.sl 10 (y3.map cGPExpr)))), (19, (.d (.sl 10 (y2.map cGPExpr)))), (18, (.rp [(.sl 10 (y2.map cGPExpr))])), (17, (vI x4)), (16, (.d (.sl 1 (p0.map (cSl 10 cGPExpr))))), (15, (vI x4)), (14, (.msl 7 1 0 y5.length y5.length)), (11, (vB (decide (x4 < (p0.length : Int))))), (10, (vI (p0.length : Int))), (9, (.d (.sl 1 (p0.map (cSl 10 cGPExpr))))), (8, (vI x4)), (0, (.d (.sl 1 (p0.map (cSl 10 cGPExpr))))), (3, (.msl 7 1 0 y5.length y5.length)), (4, (vI x4))], [(7, rowsV (y5.map (cSl 10 cGPExpr)))]⟩
   exact st 3 a8 (ni (loop_back (s' := stwToPExprSS_L0 p0 (IntKind.wrap .i64 (x4 + 1)) y5) (wr [] (es (es (es er_nil))) (br_rows (by kernel_rfl) br_nil)) (OK_wToPExprSS_L0 p0 (IntKind.wrap .i64 (x4 + 1)) y5 _ h)))
   refine ei (te (te (bh (xi (so ?_)))))
   let a9 : St := a5.p [(2, (.msl 7 1 0 b7_0.length b7_0.length)), (22, (.msl 7 1 0 b7_0.length b7_0.length))]
   refine st 2 a9 (nx (ret_frz (n := 7) (sz := 1) (l := b7_0) (f := (cSl 10 cGPExpr)) (s' := ⟨[(2, (.d (.sl 1 (b7_0.map (cSl 10 cGPExpr)))))], []⟩) (by decide) (fun y => (congrArg List.length ((fun _ => rfl) y)).trans rfl) (by kernel_rfl) (⟨.inr ⟨b7_0.length, b7_0.length, by kernel_rfl, lms b7_0 _, by kernel_rfl⟩, trivial⟩) (trivial) (ri ?_)))
   injection h with h; subst h
   exact ret1_step (v := (.d (.sl 1 (b7_0.map (cSl 10 cGPExpr))))) (by kernel_rfl) (by kernel_rfl) (by kernel_rfl)
theorem OK_wToPSort (p0 : GPSort) : FOk Try.prog 50 [(vGPSort p0)] (fun y => (vGPSort y)) (wToPSort p0) := fun r h => (OKs_wToPSort).1 p0 r h
theorem OK_wToPExpr (p0 : GPExpr) : FOk Try.prog 7 [(vGPExpr p0)] (fun y => (vGPExpr y)) (wToPExpr p0) := fun r h => (OKs_wToPSort).2.1 p0 r h
theorem OK_wToPlanS (p0 : (List GPlan)) : FOk Try.prog 21 [(.d (.sl 8 (p0.map cGPlan)))] (fun y => (.d (.sl 8 (y.map cGPlan)))) (wToPlanS p0) := fun r h => (OKs_wToPSort).2.2.1 p0 r h
theorem OK_wToPlanS_L0 (p0 : (List GPlan)) (x4 : Int) (b7_0 : (List GPlan)) (r : (List GPlan)) (h : wToPlanS_L0 p0 x4 b7_0 = some r) : avc Try.prog acwToPlanS_L0 (qwToPlanS_1 r) (stwToPlanS_L0 p0 x4 b7_0) := (OKs_wToPSort).2.2.2.1 p0 x4 b7_0 r h
theorem OK_wToPlan (p0 : GPlan) : FOk Try.prog 12 [(vGPlan p0)] (fun y => (vGPlan y)) (wToPlan p0) := fun r h => (OKs_wToPSort).2.2.2.2.1 p0 r h
theorem OK_wToPSortS (p0 : (List GPSort)) : FOk Try.prog 34 [(.d (.sl 11 (p0.map cGPSort)))] (fun y => (.d (.sl 11 (y.map cGPSort)))) (wToPSortS p0) := fun r h => (OKs_wToPSort).2.2.2.2.2.1 p0 r h
theorem OK_wToPSortS_L0 (p0 : (List GPSort)) (x4 : Int) (b7_0 : (List GPSort)) (r : (List GPSort)) (h : wToPSortS_L0 p0 x4 b7_0 = some r) : avc Try.prog acwToPSortS_L0 (qwToPSortS_1 r) (stwToPSortS_L0 p0 x4 b7_0) := (OKs_wToPSort).2.2.2.2.2.2.1 p0 x4 b7_0 r h
theorem OK_wToPExprS (p0 : (List GPExpr)) : FOk Try.prog 20 [(.d (.sl 10 (p0.map cGPExpr)))] (fun y => (.d (.sl 10 (y.map cGPExpr)))) (wToPExprS p0) := fun r h => (OKs_wToPSort).2.2.2.2.2.2.2.1 p0 r h
theorem OK_wToPExprS_L0 (p0 : (List GPExpr)) (x4 : Int) (b7_0 : (List GPExpr)) (r : (List GPExpr)) (h : wToPExprS_L0 p0 x4 b7_0 = some r) : avc Try.prog acwToPExprS_L0 (qwToPExprS_1 r) (stwToPExprS_L0 p0 x4 b7_0) := (OKs_wToPSort).2.2.2.2.2.2.2.2.1 p0 x4 b7_0 r h
theorem OK_wToPExprSS (p0 : (List (List GPExpr))) : FOk Try.prog 33 [(.d (.sl 1 (p0.map (cSl 10 cGPExpr))))] (fun y => (.d (.sl 1 (y.map (cSl 10 cGPExpr))))) (wToPExprSS p0) := fun r h => (OKs_wToPSort).2.2.2.2.2.2.2.2.2.1 p0 r h
theorem OK_wToPExprSS_L0 (p0 : (List (List GPExpr))) (x4 : Int) (b7_0 : (List (List GPExpr))) (r : (List (List GPExpr))) (h : wToPExprSS_L0 p0 x4 b7_0 = some r) : avc Try.prog acwToPExprSS_L0 (qwToPExprSS_1 r) (stwToPExprSS_L0 p0 x4 b7_0) := (OKs_wToPSort).2.2.2.2.2.2.2.2.2.2 p0 x4 b7_0 r h
theorem OK_wFnExactPutPExpr (p0 : GPExpr) : FOk Try.prog 3 [(vGPExpr p0)] (fun y => (vB y)) (wFnExactPutPExpr p0) := by
 intro r h
 rw [wFnExactPutPExpr] at h
 refine acalls_of_fn trwFnExactPutPExpr (Nat.le_of_ble_eq_true rfl) (by simp) ?_
 show avc Try.prog acwFnExactPutPExpr (qwFnExactPutPExpr _) ⟨[(0, (vGPExpr p0))], []⟩
 delta acwFnExactPutPExpr
 refine so ?_
 let a0 : St := ⟨[(2, (vB false)), (1, (.ptr 1 0)), (0, (vGPExpr p0))], [(1, bGPExpr p0)]⟩
 refine st 2 a0 (nx (so ?_))
 let a1 : St := a0.p [(3, (vI 1048576))]
 refine st 1 a1 (nx (so ?_))
 let a2 : St := a1.p [(8, (vI 1048576)), (7, (vGPExpr p0))]
 refine st 2 a2 (cs h (OK_wSzPExpr p0 1048576) fun y1 h => ?_)
 let a3 : St := a2.p [(3, (vI y1)), (9, (vI y1))]
 refine st 1 a3 (nx (si (so ?_)))
 let a4 : St := a3.p [(11, (vB (decide (y1 < 0)))), (10, (vI y1))]
 refine st 2 a4 (nx ?_)
 refine cd h (fun h => ?_) fun h => ?_
 refine so ?_
 let a5 : St := a4.p [(2, (vB true))]
 refine st 1 a5 (nx (ri (tr ?_)))
 injection h with h; subst h
 exact ret1_step (v := (vB true)) (by kernel_rfl) (by kernel_rfl) (by kernel_rfl)
 refine ki (xi (so ?_))
 let a6 : St := a4.p [(12, (vGPExpr p0))]
 refine st 1 a6 (cs h (OK_wToPExpr p0) fun y2 h => (cs h (OK_sPutPExpr y2) fun y3 h => ?_))
 let a7 : St := a6.p [(4, (vS y3)), (14, (vS y3)), (13, (vGPExpr y2))]
 refine st 1 a7 (nx (so ?_))
 let a8 : St := a7.p [(15, (vGPExpr p0))]
 refine st 1 a8 (cs h (OK_wToPExpr p0) fun y4 h => ?_)
 let a9 : St := ⟨(5, (.ptr 5 0)) :: (16, (vGPExpr y4)) :: a8.env, [(5, bGPExpr y4), (1, bGPExpr p0)]⟩
 refine st 2 a9 (nx (so ?_))
 let a10 : St := a9.p [(17, (vGPExpr y4))]
 refine st 1 a10 (cs h (OK_iPutPExpr y4) fun y5 h => ?_)
 let a11 : St := a10.p [(6, (vS y5)), (18, (vS y5))]
 refine st 1 a11 (nx (si (so ?_)))
 let a12 : St := a11.p [(21, (vB (!decide (y5 = y3)))), (20, (vS y3)), (19, (vS y5))]
 refine st 3 a12 (nx ?_)
 refine cd h (fun h => ?_) fun h => ?_
 refine so ?_
 let a13 : St := a12.p [(2, (vB false))]
 refine st 1 a13 (nx (ri (tr ?_)))
 injection h with h; subst h
 exact ret1_step (v := (vB false)) (by kernel_rfl) (by kernel_rfl) (by kernel_rfl)
 refine ki (xi (si (si (dops_in ?_))))
 let a14 : St := a12.p [(23, (vGPExpr p0)), (22, (vGPExpr y4))]
 refine dsts_ok 2 (s' := a14) (by kernel_rfl) (dcall_step (m := wToPExpr p0) (args := [(vGPExpr p0)]) (v' := (fun y => (vGPExpr y))) h (OK_wToPExpr p0) (by kernel_rfl) (by kernel_rfl) (fun _ => rfl) ?_)
 clear h; intro y6 h
 refine dcall_step (m := wEqPExpr y4 y6) (args := [(vGPExpr y4), (vGPExpr y6)]) (v' := (fun y => (vB y))) h (OK_wEqPExpr y4 y6) (by kernel_rfl) (by kernel_rfl) (fun _ => rfl) ?_
 clear h; intro y7 h
 let a15 : St := a14.p [(26, (vB (!y7))), (25, (vB y7)), (24, (vGPExpr y6))]
 refine dsts_ok 1 (s' := a15) (by kernel_rfl) (dnil_in (by kernel_rfl) (by kernel_rfl) (xi ?_))
 refine cd h (fun h => ?_) fun h => ?_
 refine so ?_
 let a16 : St := a15.p [(2, (vB false))]
 refine st 1 a16 (nx (ri (tr ?_)))
 injection h with h; subst h
 exact ret1_step (v := (vB false)) (by kernel_rfl) (by kernel_rfl) (by kernel_rfl)
 refine ki (xi (so ?_))
 let a17 : St := a15.p [(2, (vB true))]
 refine st 1 a17 (nx (ri ?_))
 injection h with h; subst h
 exact ret1_step (v := (vB true)) (by kernel_rfl) (by kernel_rfl) (by kernel_rfl)
theorem law_wFnExactPutPExpr (hp : ∀ (x0 : GPExpr) (_ : okGPExpr x0), wFnExactPutPExpr x0 = some true) (ls : List (List D)) (hw : WtA Try.prog [27] ls) (hok : ∀ l ∈ ls, ∀ x ∈ l, OkD x) : ACalls Try.prog 3 (argsV Try.prog [27] ls) [] fun x _ => x = .d (.b true) := by
  rcases hw with _ | ⟨h0, hw⟩
  cases hw
  obtain ⟨x0, rfl⟩ := de27 h0
  have a0 : argV Try.prog 27 (cGPExpr x0) = (vGPExpr x0) := (congrArg _ (cGPExpr_eq x0)).trans (by kernel_rfl)
  have k0 : ∀ d ∈ cGPExpr x0, OkD d := hok _ (by simp)
  simp only [argsV, a0]
  exact OK_wFnExactPutPExpr x0 true (hp x0 (koGPExpr x0 k0))
end Go.Proofs.Ytkdkhdefdfkagaa
