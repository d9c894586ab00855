/- That the code computes these functions (printed by a program). -/
import Derived.Test.YtdiknmniclancaaCExactQueryOk1
namespace Go.Proofs.Ytdiknmniclancaa
open Go Go.RowKit Go.Ab
theorem OKs_wEqSource : (∀ (p0 : GSource) (p1 : GSource) (r : Bool), wEqSource p0 p1 = some r → ACalls Try.prog 124 [(vGSource p0), (vGSource p1)] [] fun x _ => x = (fun y => (vB y)) r) ∧ (∀ (p0 : (List GExpr)) (p1 : (List GExpr)) (r : Bool), wEqExprS p0 p1 = some r → ACalls Try.prog 51 [(.d (.sl 10 (p0.map cGExpr))), (.d (.sl 10 (p1.map cGExpr)))] [] fun x _ => x = (fun y => (vB y)) r) ∧ (∀ (p0 : (List GExpr)) (p1 : (List GExpr)) (x5 : Int) (r : Bool), wEqExprS_L0 p0 p1 x5 = some r → avc Try.prog acwEqExprS_L0 (qwEqExprS_1 r) (stwEqExprS_L0 p0 p1 x5)) ∧ (∀ (p0 : GExpr) (p1 : GExpr) (r : Bool), wEqExpr p0 p1 = some r → ACalls Try.prog 23 [(vGExpr p0), (vGExpr p1)] [] fun x _ => x = (fun y => (vB y)) r) ∧ (∀ (p0 : (List GQuery)) (p1 : (List GQuery)) (r : Bool), wEqQueryS p0 p1 = some r → ACalls Try.prog 78 [(.d (.sl 6 (p0.map cGQuery))), (.d (.sl 6 (p1.map cGQuery)))] [] fun x _ => x = (fun y => (vB y)) r) ∧ (∀ (p0 : (List GQuery)) (p1 : (List GQuery)) (x5 : Int) (r : Bool), wEqQueryS_L0 p0 p1 x5 = some r → avc Try.prog acwEqQueryS_L0 (qwEqQueryS_1 r) (stwEqQueryS_L0 p0 p1 x5)) ∧ (∀ (p0 : GQuery) (p1 : GQuery) (r : Bool), wEqQuery p0 p1 = some r → ACalls Try.prog 18 [(vGQuery p0), (vGQuery p1)] [] fun x _ => x = (fun y => (vB y)) r) ∧ (∀ (p0 : (List GSortKey)) (p1 : (List GSortKey)) (r : Bool), wEqSortKeyS p0 p1 = some r → ACalls Try.prog 69 [(.d (.sl 11 (p0.map cGSortKey))), (.d (.sl 11 (p1.map cGSortKey)))] [] fun x _ => x = (fun y => (vB y)) r) ∧ (∀ (p0 : (List GSortKey)) (p1 : (List GSortKey)) (x5 : Int) (r : Bool), wEqSortKeyS_L0 p0 p1 x5 = some r → avc Try.prog acwEqSortKeyS_L0 (qwEqSortKeyS_1 r) (stwEqSortKeyS_L0 p0 p1 x5)) ∧ (∀ (p0 : GSortKey) (p1 : GSortKey) (r : Bool), wEqSortKey p0 p1 = some r → ACalls Try.prog 125 [(vGSortKey p0), (vGSortKey p1)] [] fun x _ => x = (fun y => (vB y)) r) ∧ (∀ (p0 : (List GSource)) (p1 : (List GSource)) (r : Bool), wEqSourceS p0 p1 = some r → ACalls Try.prog 68 [(.d (.sl 3 (p0.map cGSource))), (.d (.sl 3 (p1.map cGSource)))] [] fun x _ => x = (fun y => (vB y)) r) ∧ (∀ (p0 : (List GSource)) (p1 : (List GSource)) (x5 : Int) (r : Bool), wEqSourceS_L0 p0 p1 x5 = some r → avc Try.prog acwEqSourceS_L0 (qwEqSourceS_1 r) (stwEqSourceS_L0 p0 p1 x5)) ∧ (∀ (p0 : (List GItem)) (p1 : (List GItem)) (r : Bool), wEqItemS p0 p1 = some r → ACalls Try.prog 67 [(.d (.sl 13 (p0.map cGItem))), (.d (.sl 13 (p1.map cGItem)))] [] fun x _ => x = (fun y => (vB y)) r) ∧ (∀ (p0 : (List GItem)) (p1 : (List GItem)) (x5 : Int) (r : Bool), wEqItemS_L0 p0 p1 x5 = some r → avc Try.prog acwEqItemS_L0 (qwEqItemS_1 r) (stwEqItemS_L0 p0 p1 x5)) ∧ (∀ (p0 : GItem) (p1 : GItem) (r : Bool), wEqItem p0 p1 = some r → ACalls Try.prog 123 [(vGItem p0), (vGItem p1)] [] fun x _ => x = (fun y => (vB y)) r) := by
 refine wEqSource.mutual_partial_correctness (fun p0 p1 r => ACalls Try.prog 124 [(vGSource p0), (vGSource p1)] [] fun x _ => x = (fun y => (vB y)) r) (fun p0 p1 r => ACalls Try.prog 51 [(.d (.sl 10 (p0.map cGExpr))), (.d (.sl 10 (p1.map cGExpr)))] [] fun x _ => x = (fun y => (vB y)) r) (fun p0 p1 x5 r => avc Try.prog acwEqExprS_L0 (qwEqExprS_1 r) (stwEqExprS_L0 p0 p1 x5)) (fun p0 p1 r => ACalls Try.prog 23 [(vGExpr p0), (vGExpr p1)] [] fun x _ => x = (fun y => (vB y)) r) (fun p0 p1 r => ACalls Try.prog 78 [(.d (.sl 6 (p0.map cGQuery))), (.d (.sl 6 (p1.map cGQuery)))] [] fun x _ => x = (fun y => (vB y)) r) (fun p0 p1 x5 r => avc Try.prog acwEqQueryS_L0 (qwEqQueryS_1 r) (stwEqQueryS_L0 p0 p1 x5)) (fun p0 p1 r => ACalls Try.prog 18 [(vGQuery p0), (vGQuery p1)] [] fun x _ => x = (fun y => (vB y)) r) (fun p0 p1 r => ACalls Try.prog 69 [(.d (.sl 11 (p0.map cGSortKey))), (.d (.sl 11 (p1.map cGSortKey)))] [] fun x _ => x = (fun y => (vB y)) r) (fun p0 p1 x5 r => avc Try.prog acwEqSortKeyS_L0 (qwEqSortKeyS_1 r) (stwEqSortKeyS_L0 p0 p1 x5)) (fun p0 p1 r => ACalls Try.prog 125 [(vGSortKey p0), (vGSortKey p1)] [] fun x _ => x = (fun y => (vB y)) r) (fun p0 p1 r => ACalls Try.prog 68 [(.d (.sl 3 (p0.map cGSource))), (.d (.sl 3 (p1.map cGSource)))] [] fun x _ => x = (fun y => (vB y)) r) (fun p0 p1 x5 r => avc Try.prog acwEqSourceS_L0 (qwEqSourceS_1 r) (stwEqSourceS_L0 p0 p1 x5)) (fun p0 p1 r => ACalls Try.prog 67 [(.d (.sl 13 (p0.map cGItem))), (.d (.sl 13 (p1.map cGItem)))] [] fun x _ => x = (fun y => (vB y)) r) (fun p0 p1 x5 r => avc Try.prog acwEqItemS_L0 (qwEqItemS_1 r) (stwEqItemS_L0 p0 p1 x5)) (fun p0 p1 r => ACalls Try.prog 123 [(vGItem p0), (vGItem p1)] [] fun x _ => x = (fun y => (vB y)) r) ?_ ?_ ?_ ?_ ?_ ?_ ?_ ?_ ?_ ?_ ?_ ?_ ?_ ?_ ?_
 · intro F_wEqExprS OK_wEqExprS p0 p1 r h
   refine acalls_of_fn trwEqSource (Nat.le_of_ble_eq_true rfl) (by simp) ?_
   show avc Try.prog acwEqSource (qwEqSource _) ⟨[(0, (vGSource p0)), (1, (vGSource p1))], []⟩
   delta acwEqSource
   refine so ?_
   let a0 : St := ⟨[(4, (vB false)), (3, (.ptr 3 0)), (2, (.ptr 2 0)), (0, (vGSource p0)), (1, (vGSource p1))], [(3, bGSource p1), (2, bGSource p0)]⟩
   refine st 3 a0 (nx (si (so ?_)))
   let a1 : St := a0.p [(9, (vB (!decide (p0.table = p1.table)))), (8, (vS p1.table)), (7, (.ptr 3 0)), (6, (vS p0.table)), (5, (.ptr 2 0))]
   refine st 5 a1 (nx ?_)
   refine cd h (fun h => ?_) fun h => ?_
   refine so ?_
   let a2 : St := a1.p [(4, (vB false))]
   refine st 1 a2 (nx (ri (tr ?_)))
   injection h with h; subst h
   exact ret1_step (v := (vB false)) (by kernel_rfl) (by kernel_rfl) (by kernel_rfl)
   refine ki (xi (si (so ?_)))
   let a3 : St := a1.p [(14, (vB (!decide (p0.as_ = p1.as_)))), (13, (vS p1.as_)), (12, (.ptr 3 1)), (11, (vS p0.as_)), (10, (.ptr 2 1))]
   refine st 5 a3 (nx ?_)
   refine cd h (fun h => ?_) fun h => ?_
   refine so ?_
   let a4 : St := a3.p [(4, (vB false))]
   refine st 1 a4 (nx (ri (tr ?_)))
   injection h with h; subst h
   exact ret1_step (v := (vB false)) (by kernel_rfl) (by kernel_rfl) (by kernel_rfl)
   refine ki (xi (si (so ?_)))
   let a5 : St := a3.p [(18, (.d (.sl 10 (p1.on_.map cGExpr)))), (17, (.ptr 3 2)), (16, (.d (.sl 10 (p0.on_.map cGExpr)))), (15, (.ptr 2 2))]
   refine st 4 a5 (cs h (OK_wEqExprS p0.on_ p1.on_) fun y1 h => ?_)
   let a6 : St := a5.p [(20, (vB (!y1))), (19, (vB y1))]
   refine st 1 a6 (nx ?_)
   refine cd h (fun h => ?_) fun h => ?_
   refine so ?_
   let a7 : St := a6.p [(4, (vB false))]
   refine st 1 a7 (nx (ri (tr ?_)))
   injection h with h; subst h
   exact ret1_step (v := (vB false)) (by kernel_rfl) (by kernel_rfl) (by kernel_rfl)
   refine ki (xi (so ?_))
   let a8 : St := a6.p [(4, (vB true))]
   refine st 1 a8 (nx (ri ?_))
   injection h with h; subst h
   exact ret1_step (v := (vB true)) (by kernel_rfl) (by kernel_rfl) (by kernel_rfl)
 · intro F_wEqExprS_L0 OK_wEqExprS_L0 p0 p1 r h
   refine acalls_of_fn trwEqExprS (Nat.le_of_ble_eq_true rfl) (by simp) ?_
   show avc Try.prog acwEqExprS (qwEqExprS _) ⟨[(0, (.d (.sl 10 (p0.map cGExpr)))), (1, (.d (.sl 10 (p1.map cGExpr))))], []⟩
   delta acwEqExprS
   refine so ?_
   let a0 : St := ⟨[(4, (vB false)), (0, (.d (.sl 10 (p0.map cGExpr)))), (1, (.d (.sl 10 (p1.map cGExpr))))], []⟩
   refine st 1 a0 (nx (si (so ?_)))
   let a1 : St := a0.p [(6, (.d (.sl 10 (p0.map cGExpr))))]
   refine st 1 a1 (ps (vI (p0.length : Int)) (vop_len (sz := 10) (l := p0) (f := cGExpr) (by kernel_rfl) (by kernel_rfl)) ?_)
   let a2 : St := a1.p [(8, (.d (.sl 10 (p1.map cGExpr)))), (7, (vI (p0.length : Int)))]
   refine st 1 a2 (ps (vI (p1.length : Int)) (vop_len (sz := 10) (l := p1) (f := cGExpr) (by kernel_rfl) (by kernel_rfl)) ?_)
   let a3 : St := a2.p [(10, (vB (!decide ((p0.length : Int) = (p1.length : Int))))), (9, (vI (p1.length : Int)))]
   refine st 1 a3 (nx ?_)
   refine cd h (fun h => ?_) fun h => ?_
   refine so ?_
   let a4 : St := a3.p [(4, (vB false))]
   refine st 1 a4 (nx (ri (tr ?_)))
   injection h with h; subst h
   exact ret1_step (v := (vB false)) (by kernel_rfl) (by kernel_rfl) (by kernel_rfl)
   refine ki (xi (si (so ?_)))
   let a5 : St := a3.p [(5, (vI 0))]
   exact st 1 a5 (nx (bi (loop_go (s' := stwEqExprS_L0 p0 p1 0) (wr [] (es (es (es er_nil))) br_nil) (OK_wEqExprS_L0 p0 p1 0 _ h))))
 · intro F_wEqExprS_L0 F_wEqExpr OK_wEqExprS_L0 OK_wEqExpr p0 p1 x5 r h
   delta acwEqExprS_L0
   refine loop_unroll (si (so ?_))
   let a6 : St := (stwEqExprS_L0 p0 p1 x5).p [(12, (.d (.sl 10 (p0.map cGExpr)))), (11, (vI x5))]
   refine st 2 a6 (ps (vI (p0.length : Int)) (vop_len (sz := 10) (l := p0) (f := cGExpr) (by kernel_rfl) (by kernel_rfl)) ?_)
   let a7 : St := a6.p [(14, (vB (decide (x5 < (p0.length : Int))))), (13, (vI (p0.length : Int)))]
   refine st 1 a7 (nx ?_)
   refine cd h (fun h => ?_) fun h => ?_
   refine ki (xi (si (bi (si (dops_in ?_)))))
   let a8 : St := a7.p [(18, (vI x5)), (17, (.d (.sl 10 (p0.map cGExpr))))]
   refine dsts_ok 2 (s' := a8) (by kernel_rfl) (dv_step (m := idx p0 x5) (v' := fun y => (.rp (oGExpr y))) h rfl rfl (fun y hy => vop_ia (l := p0) (f := cGExpr) (g := oGExpr) (k := .i64) hy cGExpr_eq (by kernel_rfl) (by kernel_rfl) (by kernel_rfl)) ?_)
   clear h; intro y1 h
   let a9 : St := a8.p [(22, (vI x5)), (21, (.d (.sl 10 (p1.map cGExpr)))), (20, (vGExpr y1)), (19, (.rp (oGExpr y1)))]
   refine dsts_ok 3 (s' := a9) (by kernel_rfl) (dv_step (m := idx p1 x5) (v' := fun y => (.rp (oGExpr y))) h rfl rfl (fun y hy => vop_ia (l := p1) (f := cGExpr) (g := oGExpr) (k := .i64) hy cGExpr_eq (by kernel_rfl) (by kernel_rfl) (by kernel_rfl)) ?_)
   clear h; intro y2 h
   let a10 : St := a9.p [(24, (vGExpr y2)), (23, (.rp (oGExpr y2)))]
   refine dsts_ok 1 (s' := a10) (by kernel_rfl) (dcall_step (m := F_wEqExpr y1 y2) (args := [(vGExpr y1), (vGExpr y2)]) (v' := (fun y => (vB y))) h (OK_wEqExpr y1 y2) (by kernel_rfl) (by kernel_rfl) (fun _ => rfl) ?_)
   clear h; intro y3 h
   let a11 : St := a10.p [(26, (vB (!y3))), (25, (vB y3))]
   refine dsts_ok 1 (s' := a11) (by kernel_rfl) (dnil_in (by kernel_rfl) (by kernel_rfl) (xi ?_))
   refine cd h (fun h => ?_) fun h => ?_
   refine so ?_
   let a12 : St := a11.p [(4, (vB false))]
   refine st 1 a12 (nx (ri (br (tr (tr (br (tr ?_)))))))
   injection h with h; subst h
   exact ret1_step (v := (vB false)) (by kernel_rfl) (by kernel_rfl) (by kernel_rfl)
   refine ki (bn (xi (oi ?_)))
   let a13 : St := a11.p [(5, (vI (IntKind.wrap .i64 (x5 + 1)))), (16, (vI (IntKind.wrap .i64 (x5 + 1)))), (15, (vI x5))]
   exact st 3 a13 (ni (loop_back (s' := stwEqExprS_L0 p0 p1 (IntKind.wrap .i64 (x5 + 1))) (wr [] (es (es (es er_nil))) br_nil) (OK_wEqExprS_L0 p0 p1 (IntKind.wrap .i64 (x5 + 1)) _ h)))
   refine ei (te (te (bh (xi (so ?_)))))
   let a14 : St := a7.p [(4, (vB true))]
   refine st 1 a14 (nx (ri ?_))
   injection h with h; subst h
   exact ret1_step (v := (vB true)) (by kernel_rfl) (by kernel_rfl) (by kernel_rfl)
 · intro F_wEqExprS F_wEqQueryS OK_wEqExprS OK_wEqQueryS p0 p1 r h
   refine acalls_of_fn trwEqExpr (Nat.le_of_ble_eq_true rfl) (by simp) ?_
   show avc Try.prog acwEqExpr (qwEqExpr _) ⟨[(0, (vGExpr p0)), (1, (vGExpr p1))], []⟩
   delta acwEqExpr
   refine so ?_
   let a0 : St := ⟨[(4, (vB false)), (3, (.ptr 3 0)), (2, (.ptr 2 0)), (0, (vGExpr p0)), (1, (vGExpr p1))], [(3, bGExpr p1), (2, bGExpr p0)]⟩
   refine st 3 a0 (nx (si (so ?_)))
   let a1 : St := a0.p [(9, (vB (!decide (p0.kind = p1.kind)))), (8, (vI p1.kind)), (7, (.ptr 3 0)), (6, (vI p0.kind)), (5, (.ptr 2 0))]
   refine st 5 a1 (nx ?_)
   refine cd h (fun h => ?_) fun h => ?_
   refine so ?_
   let a2 : St := a1.p [(4, (vB false))]
   refine st 1 a2 (nx (ri (tr ?_)))
   injection h with h; subst h
   exact ret1_step (v := (vB false)) (by kernel_rfl) (by kernel_rfl) (by kernel_rfl)
   refine ki (xi (si (so ?_)))
   let a3 : St := a1.p [(14, (vB (!decide (p0.op = p1.op)))), (13, (vI p1.op)), (12, (.ptr 3 1)), (11, (vI p0.op)), (10, (.ptr 2 1))]
   refine st 5 a3 (nx ?_)
   refine cd h (fun h => ?_) fun h => ?_
   refine so ?_
   let a4 : St := a3.p [(4, (vB false))]
   refine st 1 a4 (nx (ri (tr ?_)))
   injection h with h; subst h
   exact ret1_step (v := (vB false)) (by kernel_rfl) (by kernel_rfl) (by kernel_rfl)
   refine ki (xi (si (so ?_)))
   let a5 : St := a3.p [(19, (vB (!(p0.not_ == p1.not_)))), (18, (vB p1.not_)), (17, (.ptr 3 2)), (16, (vB p0.not_)), (15, (.ptr 2 2))]
   refine st 5 a5 (nx ?_)
   refine cd h (fun h => ?_) fun h => ?_
   refine so ?_
   let a6 : St := a5.p [(4, (vB false))]
   refine st 1 a6 (nx (ri (tr ?_)))
   injection h with h; subst h
   exact ret1_step (v := (vB false)) (by kernel_rfl) (by kernel_rfl) (by kernel_rfl)
   refine ki (xi (si (so ?_)))
   let a7 : St := a5.p [(23, (vGValue p1.value)), (22, (.ptr 3 3)), (21, (vGValue p0.value)), (20, (.ptr 2 3))]
   refine st 4 a7 (cs h (OK_wEqValue p0.value p1.value) fun y1 h => ?_)
   let a8 : St := a7.p [(25, (vB (!y1))), (24, (vB y1))]
   refine st 1 a8 (nx ?_)
   refine cd h (fun h => ?_) fun h => ?_
   refine so ?_
   let a9 : St := a8.p [(4, (vB false))]
   refine st 1 a9 (nx (ri (tr ?_)))
   injection h with h; subst h
   exact ret1_step (v := (vB false)) (by kernel_rfl) (by kernel_rfl) (by kernel_rfl)
   refine ki (xi (si (so ?_)))
   let a10 : St := a8.p [(30, (vB (!decide (p0.qual = p1.qual)))), (29, (vS p1.qual)), (28, (.ptr 3 6)), (27, (vS p0.qual)), (26, (.ptr 2 6))]
   refine st 5 a10 (nx ?_)
   refine cd h (fun h => ?_) fun h => ?_
   refine so ?_
   let a11 : St := a10.p [(4, (vB false))]
   refine st 1 a11 (nx (ri (tr ?_)))
   injection h with h; subst h
   exact ret1_step (v := (vB false)) (by kernel_rfl) (by kernel_rfl) (by kernel_rfl)
   refine ki (xi (si (so ?_)))
   let a12 : St := a10.p [(35, (vB (!decide (p0.name = p1.name)))), (34, (vS p1.name)), (33, (.ptr 3 7)), (32, (vS p0.name)), (31, (.ptr 2 7))]
   refine st 5 a12 (nx ?_)
   refine cd h (fun h => ?_) fun h => ?_
   refine so ?_
   let a13 : St := a12.p [(4, (vB false))]
   refine st 1 a13 (nx (ri (tr ?_)))
   injection h with h; subst h
   exact ret1_step (v := (vB false)) (by kernel_rfl) (by kernel_rfl) (by kernel_rfl)
   refine ki (xi (si (so ?_)))
   let a14 : St := a12.p [(39, (.d (.sl 10 (p1.kids.map cGExpr)))), (38, (.ptr 3 8)), (37, (.d (.sl 10 (p0.kids.map cGExpr)))), (36, (.ptr 2 8))]
   refine st 4 a14 (cs h (OK_wEqExprS p0.kids p1.kids) fun y2 h => ?_)
   let a15 : St := a14.p [(41, (vB (!y2))), (40, (vB y2))]
   refine st 1 a15 (nx ?_)
   refine cd h (fun h => ?_) fun h => ?_
   refine so ?_
   let a16 : St := a15.p [(4, (vB false))]
   refine st 1 a16 (nx (ri (tr ?_)))
   injection h with h; subst h
   exact ret1_step (v := (vB false)) (by kernel_rfl) (by kernel_rfl) (by kernel_rfl)
   refine ki (xi (si (so ?_)))
   let a17 : St := a15.p [(45, (.d (.sl 6 (p1.sub.map cGQuery)))), (44, (.ptr 3 9)), (43, (.d (.sl 6 (p0.sub.map cGQuery)))), (42, (.ptr 2 9))]
   refine st 4 a17 (cs h (OK_wEqQueryS p0.sub p1.sub) fun y3 h => ?_)
   let a18 : St := a17.p [(47, (vB (!y3))), (46, (vB y3))]
   refine st 1 a18 (nx ?_)
   refine cd h (fun h => ?_) fun h => ?_
   refine so ?_
   let a19 : St := a18.p [(4, (vB false))]
   refine st 1 a19 (nx (ri (tr ?_)))
   injection h with h; subst h
   exact ret1_step (v := (vB false)) (by kernel_rfl) (by kernel_rfl) (by kernel_rfl)
   refine ki (xi (so ?_))
   let a20 : St := a18.p [(4, (vB true))]
   refine st 1 a20 (nx (ri ?_))
   injection h with h; subst h
   exact ret1_step (v := (vB true)) (by kernel_rfl) (by kernel_rfl) (by kernel_rfl)
 · intro F_wEqQueryS_L0 OK_wEqQueryS_L0 p0 p1 r h
   refine acalls_of_fn trwEqQueryS (Nat.le_of_ble_eq_true rfl) (by simp) ?_
   show avc Try.prog acwEqQueryS (qwEqQueryS _) ⟨[(0, (.d (.sl 6 (p0.map cGQuery)))), (1, (.d (.sl 6 (p1.map cGQuery))))], []⟩
   delta acwEqQueryS
   refine so ?_
   let a0 : St := ⟨[(4, (vB false)), (0, (.d (.sl 6 (p0.map cGQuery)))), (1, (.d (.sl 6 (p1.map cGQuery))))], []⟩
   refine st 1 a0 (nx (si (so ?_)))
   let a1 : St := a0.p [(6, (.d (.sl 6 (p0.map cGQuery))))]
   refine st 1 a1 (ps (vI (p0.length : Int)) (vop_len (sz := 6) (l := p0) (f := cGQuery) (by kernel_rfl) (by kernel_rfl)) ?_)
   let a2 : St := a1.p [(8, (.d (.sl 6 (p1.map cGQuery)))), (7, (vI (p0.length : Int)))]
   refine st 1 a2 (ps (vI (p1.length : Int)) (vop_len (sz := 6) (l := p1) (f := cGQuery) (by kernel_rfl) (by kernel_rfl)) ?_)
   let a3 : St := a2.p [(10, (vB (!decide ((p0.length : Int) = (p1.length : Int))))), (9, (vI (p1.length : Int)))]
   refine st 1 a3 (nx ?_)
   refine cd h (fun h => ?_) fun h => ?_
   refine so ?_
   let a4 : St := a3.p [(4, (vB false))]
   refine st 1 a4 (nx (ri (tr ?_)))
   injection h with h; subst h
   exact ret1_step (v := (vB false)) (by kernel_rfl) (by kernel_rfl) (by kernel_rfl)
   refine ki (xi (si (so ?_)))
   let a5 : St := a3.p [(5, (vI 0))]
   exact st 1 a5 (nx (bi (loop_go (s' := stwEqQueryS_L0 p0 p1 0) (wr [] (es (es (es er_nil))) br_nil) (OK_wEqQueryS_L0 p0 p1 0 _ h))))
 · intro F_wEqQueryS_L0 F_wEqQuery OK_wEqQueryS_L0 OK_wEqQuery p0 p1 x5 r h
   delta acwEqQueryS_L0
   refine loop_unroll (si (so ?_))
   let a6 : St := (stwEqQueryS_L0 p0 p1 x5).p [(12, (.d (.sl 6 (p0.map cGQuery)))), (11, (vI x5))]
   refine st 2 a6 (ps (vI (p0.length : Int)) (vop_len (sz := 6) (l := p0) (f := cGQuery) (by kernel_rfl) (by kernel_rfl)) ?_)
   let a7 : St := a6.p [(14, (vB (decide (x5 < (p0.length : Int))))), (13, (vI (p0.length : Int)))]
   refine st 1 a7 (nx ?_)
   refine cd h (fun h => ?_) fun h => ?_
   refine ki (xi (si (bi (si (dops_in ?_)))))
   let a8 : St := a7.p [(18, (vI x5)), (17, (.d (.sl 6 (p0.map cGQuery))))]
   refine dsts_ok 2 (s' := a8) (by kernel_rfl) (dv_step (m := idx p0 x5) (v' := fun y => (.rp (oGQuery y))) h rfl rfl (fun y hy => vop_ia (l := p0) (f := cGQuery) (g := oGQuery) (k := .i64) hy cGQuery_eq (by kernel_rfl) (by kernel_rfl) (by kernel_rfl)) ?_)
   clear h; intro y1 h
   let a9 : St := a8.p [(22, (vI x5)), (21, (.d (.sl 6 (p1.map cGQuery)))), (20, (vGQuery y1)), (19, (.rp (oGQuery y1)))]
   refine dsts_ok 3 (s' := a9) (by kernel_rfl) (dv_step (m := idx p1 x5) (v' := fun y => (.rp (oGQuery y))) h rfl rfl (fun y hy => vop_ia (l := p1) (f := cGQuery) (g := oGQuery) (k := .i64) hy cGQuery_eq (by kernel_rfl) (by kernel_rfl) (by kernel_rfl)) ?_)
   clear h; intro y2 h
   let a10 : St := a9.p [(24, (vGQuery y2)), (23, (.rp (oGQuery y2)))]
   refine dsts_ok 1 (s' := a10) (by kernel_rfl) (dcall_step (m := F_wEqQuery y1 y2) (args := [(vGQuery y1), (vGQuery y2)]) (v' := (fun y => (vB y))) h (OK_wEqQuery y1 y2) (by kernel_rfl) (by kernel_rfl) (fun _ => rfl) ?_)
   clear h; intro y3 h
   let a11 : St := a10.p [(26, (vB (!y3))), (25, (vB y3))]
   refine dsts_ok 1 (s' := a11) (by kernel_rfl) (dnil_in (by kernel_rfl) (by kernel_rfl) (xi ?_))
   refine cd h (fun h => ?_) fun h => ?_
   refine so ?_
   let a12 : St := a11.p [(4, (vB false))]
   refine st 1 a12 (nx (ri (br (tr (tr (br (tr ?_)))))))
   injection h with h; subst h
   exact ret1_step (v := (vB false)) (by kernel_rfl) (by kernel_rfl) (by kernel_rfl)
   refine ki (bn (xi (oi ?_)))
   let a13 : St := a11.p [(5, (vI (IntKind.wrap .i64 (x5 + 1)))), (16, (vI (IntKind.wrap .i64 (x5 + 1)))), (15, (vI x5))]
   exact st 3 a13 (ni (loop_back (s' := stwEqQueryS_L0 p0 p1 (IntKind.wrap .i64 (x5 + 1))) (wr [] (es (es (es er_nil))) br_nil) (OK_wEqQueryS_L0 p0 p1 (IntKind.wrap .i64 (x5 + 1)) _ h)))
   refine ei (te (te (bh (xi (so ?_)))))
   let a14 : St := a7.p [(4, (vB true))]
   refine st 1 a14 (nx (ri ?_))
   injection h with h; subst h
   exact ret1_step (v := (vB true)) (by kernel_rfl) (by kernel_rfl) (by kernel_rfl)
 · intro F_wEqExprS F_wEqSortKeyS F_wEqSourceS F_wEqItemS OK_wEqExprS OK_wEqSortKeyS OK_wEqSourceS OK_wEqItemS p0 p1 r h
   refine acalls_of_fn trwEqQuery (Nat.le_of_ble_eq_true rfl) (by simp) ?_
   show avc Try.prog acwEqQuery (qwEqQuery _) ⟨[(0, (vGQuery p0)), (1, (vGQuery p1))], []⟩
   delta acwEqQuery
   refine so ?_
   let a0 : St := ⟨[(4, (vB false)), (3, (.ptr 3 0)), (2, (.ptr 2 0)), (0, (vGQuery p0)), (1, (vGQuery p1))], [(3, bGQuery p1), (2, bGQuery p0)]⟩
   refine st 3 a0 (nx (si (so ?_)))
   let a1 : St := a0.p [(9, (vB (!(p0.distinct == p1.distinct)))), (8, (vB p1.distinct)), (7, (.ptr 3 0)), (6, (vB p0.distinct)), (5, (.ptr 2 0))]
   refine st 5 a1 (nx ?_)
   refine cd h (fun h => ?_) fun h => ?_
   refine so ?_
   let a2 : St := a1.p [(4, (vB false))]
   refine st 1 a2 (nx (ri (tr ?_)))
   injection h with h; subst h
   exact ret1_step (v := (vB false)) (by kernel_rfl) (by kernel_rfl) (by kernel_rfl)
   refine ki (xi (si (so ?_)))
   let a3 : St := a1.p [(13, (.d (.sl 13 (p1.items.map cGItem)))), (12, (.ptr 3 1)), (11, (.d (.sl 13 (p0.items.map cGItem)))), (10, (.ptr 2 1))]
   refine st 4 a3 (cs h (OK_wEqItemS p0.items p1.items) fun y1 h => ?_)
   let a4 : St := a3.p [(15, (vB (!y1))), (14, (vB y1))]
   refine st 1 a4 (nx ?_)
   refine cd h (fun h => ?_) fun h => ?_
   refine so ?_
   let a5 : St := a4.p [(4, (vB false))]
   refine st 1 a5 (nx (ri (tr ?_)))
   injection h with h; subst h
   exact ret1_step (v := (vB false)) (by kernel_rfl) (by kernel_rfl) (by kernel_rfl)
   refine ki (xi (si (so ?_)))
   let a6 : St := a4.p [(19, (.d (.sl 3 (p1.from_.map cGSource)))), (18, (.ptr 3 2)), (17, (.d (.sl 3 (p0.from_.map cGSource)))), (16, (.ptr 2 2))]
   refine st 4 a6 (cs h (OK_wEqSourceS p0.from_ p1.from_) fun y2 h => ?_)
   let a7 : St := a6.p [(21, (vB (!y2))), (20, (vB y2))]
   refine st 1 a7 (nx ?_)
   refine cd h (fun h => ?_) fun h => ?_
   refine so ?_
   let a8 : St := a7.p [(4, (vB false))]
   refine st 1 a8 (nx (ri (tr ?_)))
   injection h with h; subst h
   exact ret1_step (v := (vB false)) (by kernel_rfl) (by kernel_rfl) (by kernel_rfl)
   refine ki (xi (si (so ?_)))
   let a9 : St := a7.p [(25, (.d (.sl 10 (p1.where_.map cGExpr)))), (24, (.ptr 3 3)), (23, (.d (.sl 10 (p0.where_.map cGExpr)))), (22, (.ptr 2 3))]
   refine st 4 a9 (cs h (OK_wEqExprS p0.where_ p1.where_) fun y3 h => ?_)
   let a10 : St := a9.p [(27, (vB (!y3))), (26, (vB y3))]
   refine st 1 a10 (nx ?_)
   refine cd h (fun h => ?_) fun h => ?_
   refine so ?_
   let a11 : St := a10.p [(4, (vB false))]
   refine st 1 a11 (nx (ri (tr ?_)))
   injection h with h; subst h
   exact ret1_step (v := (vB false)) (by kernel_rfl) (by kernel_rfl) (by kernel_rfl)
   refine ki (xi (si (so ?_)))
   let a12 : St := a10.p [(31, (.d (.sl 11 (p1.order.map cGSortKey)))), (30, (.ptr 3 4)), (29, (.d (.sl 11 (p0.order.map cGSortKey)))), (28, (.ptr 2 4))]
   refine st 4 a12 (cs h (OK_wEqSortKeyS p0.order p1.order) fun y4 h => ?_)
   let a13 : St := a12.p [(33, (vB (!y4))), (32, (vB y4))]
   refine st 1 a13 (nx ?_)
   refine cd h (fun h => ?_) fun h => ?_
   refine so ?_
   let a14 : St := a13.p [(4, (vB false))]
   refine st 1 a14 (nx (ri (tr ?_)))
   injection h with h; subst h
   exact ret1_step (v := (vB false)) (by kernel_rfl) (by kernel_rfl) (by kernel_rfl)
   refine ki (xi (si (so ?_)))
   let a15 : St := a13.p [(38, (vB (!decide (p0.limit = p1.limit)))), (37, (vI p1.limit)), (36, (.ptr 3 5)), (35, (vI p0.limit)), (34, (.ptr 2 5))]
   refine st 5 a15 (nx ?_)
   refine cd h (fun h => ?_) fun h => ?_
   refine so ?_
   let a16 : St := a15.p [(4, (vB false))]
   refine st 1 a16 (nx (ri (tr ?_)))
   injection h with h; subst h
   exact ret1_step (v := (vB false)) (by kernel_rfl) (by kernel_rfl) (by kernel_rfl)
   refine ki (xi (so ?_))
   let a17 : St := a15.p [(4, (vB true))]
   refine st 1 a17 (nx (ri ?_))
   injection h with h; subst h
   exact ret1_step (v := (vB true)) (by kernel_rfl) (by kernel_rfl) (by kernel_rfl)
 · intro F_wEqSortKeyS_L0 OK_wEqSortKeyS_L0 p0 p1 r h
   refine acalls_of_fn trwEqSortKeyS (Nat.le_of_ble_eq_true rfl) (by simp) ?_
   show avc Try.prog acwEqSortKeyS (qwEqSortKeyS _) ⟨[(0, (.d (.sl 11 (p0.map cGSortKey)))), (1, (.d (.sl 11 (p1.map cGSortKey))))], []⟩
   delta acwEqSortKeyS
   refine so ?_
   let a0 : St := ⟨[(4, (vB false)), (0, (.d (.sl 11 (p0.map cGSortKey)))), (1, (.d (.sl 11 (p1.map cGSortKey))))], []⟩
   refine st 1 a0 (nx (si (so ?_)))
   let a1 : St := a0.p [(6, (.d (.sl 11 (p0.map cGSortKey))))]
   refine st 1 a1 (ps (vI (p0.length : Int)) (vop_len (sz := 11) (l := p0) (f := cGSortKey) (by kernel_rfl) (by kernel_rfl)) ?_)
   let a2 : St := a1.p [(8, (.d (.sl 11 (p1.map cGSortKey)))), (7, (vI (p0.length : Int)))]
   refine st 1 a2 (ps (vI (p1.length : Int)) (vop_len (sz := 11) (l := p1) (f := cGSortKey) (by kernel_rfl) (by kernel_rfl)) ?_)
   let a3 : St := a2.p [(10, (vB (!decide ((p0.length : Int) = (p1.length : Int))))), (9, (vI (p1.length : Int)))]
   refine st 1 a3 (nx ?_)
   refine cd h (fun h => ?_) fun h => ?_
   refine so ?_
   let a4 : St := a3.p [(4, (vB false))]
   refine st 1 a4 (nx (ri (tr ?_)))
   injection h with h; subst h
   exact ret1_step (v := (vB false)) (by kernel_rfl) (by kernel_rfl) (by kernel_rfl)
   refine ki (xi (si (so ?_)))
   let a5 : St := a3.p [(5, (vI 0))]
   exact st 1 a5 (nx (bi (loop_go (s' := stwEqSortKeyS_L0 p0 p1 0) (wr [] (es (es (es er_nil))) br_nil) (OK_wEqSortKeyS_L0 p0 p1 0 _ h))))
 · intro F_wEqSortKeyS_L0 F_wEqSortKey OK_wEqSortKeyS_L0 OK_wEqSortKey p0 p1 x5 r h
   delta acwEqSortKeyS_L0
   refine loop_unroll (si (so ?_))
   let a6 : St := (stwEqSortKeyS_L0 p0 p1 x5).p [(12, (.d (.sl 11 (p0.map cGSortKey)))), (11, (vI x5))]
   refine st 2 a6 (ps (vI (p0.length : Int)) (vop_len (sz := 11) (l := p0) (f := cGSortKey) (by kernel_rfl) (by kernel_rfl)) ?_)
   let a7 : St := a6.p [(14, (vB (decide (x5 < (p0.length : Int))))), (13, (vI (p0.length : Int)))]
   refine st 1 a7 (nx ?_)
   refine cd h (fun h => ?_) fun h => ?_
   refine ki (xi (si (bi (si (dops_in ?_)))))
   let a8 : St := a7.p [(18, (vI x5)), (17, (.d (.sl 11 (p0.map cGSortKey))))]
   refine dsts_ok 2 (s' := a8) (by kernel_rfl) (dv_step (m := idx p0 x5) (v' := fun y => (.rp (oGSortKey y))) h rfl rfl (fun y hy => vop_ia (l := p0) (f := cGSortKey) (g := oGSortKey) (k := .i64) hy cGSortKey_eq (by kernel_rfl) (by kernel_rfl) (by kernel_rfl)) ?_)
   clear h; intro y1 h
   let a9 : St := a8.p [(22, (vI x5)), (21, (.d (.sl 11 (p1.map cGSortKey)))), (20, (vGSortKey y1)), (19, (.rp (oGSortKey y1)))]
   refine dsts_ok 3 (s' := a9) (by kernel_rfl) (dv_step (m := idx p1 x5) (v' := fun y => (.rp (oGSortKey y))) h rfl rfl (fun y hy => vop_ia (l := p1) (f := cGSortKey) (g := oGSortKey) (k := .i64) hy cGSortKey_eq (by kernel_rfl) (by kernel_rfl) (by kernel_rfl)) ?_)
   clear h; intro y2 h
   let a10 : St := a9.p [(24, (vGSortKey y2)), (23, (.rp (oGSortKey y2)))]
   refine dsts_ok 1 (s' := a10) (by kernel_rfl) (dcall_step (m := F_wEqSortKey y1 y2) (args := [(vGSortKey y1), (vGSortKey y2)]) (v' := (fun y => (vB y))) h (OK_wEqSortKey y1 y2) (by kernel_rfl) (by kernel_rfl) (fun _ => rfl) ?_)
   clear h; intro y3 h
   let a11 : St := a10.p [(26, (vB (!y3))), (25, (vB y3))]
   refine dsts_ok 1 (s' := a11) (by kernel_rfl) (dnil_in (by kernel_rfl) (by kernel_rfl) (xi ?_))
   refine cd h (fun h => ?_) fun h => ?_
   refine so ?_
   let a12 : St := a11.p [(4, (vB false))]
   refine st 1 a12 (nx (ri (br (tr (tr (br (tr ?_)))))))
   injection h with h; subst h
   exact ret1_step (v := (vB false)) (by kernel_rfl) (by kernel_rfl) (by kernel_rfl)
   refine ki (bn (xi (oi ?_)))
   let a13 : St := a11.p [(5, (vI (IntKind.wrap .i64 (x5 + 1)))), (16, (vI (IntKind.wrap .i64 (x5 + 1)))), (15, (vI x5))]
   exact st 3 a13 (ni (loop_back (s' := stwEqSortKeyS_L0 p0 p1 (IntKind.wrap .i64 (x5 + 1))) (wr [] (es (es (es er_nil))) br_nil) (OK_wEqSortKeyS_L0 p0 p1 (IntKind.wrap .i64 (x5 + 1)) _ h)))
   refine ei (te (te (bh (xi (so ?_)))))
   let a14 : St := a7.p [(4, (vB true))]
   refine st 1 a14 (nx (ri ?_))
   injection h with h; subst h
   exact ret1_step (v := (vB true)) (by kernel_rfl) (by kernel_rfl) (by kernel_rfl)
 · intro F_wEqExpr OK_wEqExpr p0 p1 r h
   refine acalls_of_fn trwEqSortKey (Nat.le_of_ble_eq_true rfl) (by simp) ?_
   show avc Try.prog acwEqSortKey (qwEqSortKey _) ⟨[(0, (vGSortKey p0)), (1, (vGSortKey p1))], []⟩
   delta acwEqSortKey
   refine so ?_
   let a0 : St := ⟨[(4, (vB false)), (3, (.ptr 3 0)), (2, (.ptr 2 0)), (0, (vGSortKey p0)), (1, (vGSortKey p1))], [(3, bGSortKey p1), (2, bGSortKey p0)]⟩
   refine st 3 a0 (nx (si (so ?_)))
   let a1 : St := a0.p [(8, (vGExpr p1.expr)), (7, (.ptr 3 0)), (6, (vGExpr p0.expr)), (5, (.ptr 2 0))]
   refine st 4 a1 (cs h (OK_wEqExpr p0.expr p1.expr) fun y1 h => ?_)
   let a2 : St := a1.p [(10, (vB (!y1))), (9, (vB y1))]
   refine st 1 a2 (nx ?_)
   refine cd h (fun h => ?_) fun h => ?_
   refine so ?_
   let a3 : St := a2.p [(4, (vB false))]
   refine st 1 a3 (nx (ri (tr ?_)))
   injection h with h; subst h
   exact ret1_step (v := (vB false)) (by kernel_rfl) (by kernel_rfl) (by kernel_rfl)
   refine ki (xi (si (so ?_)))
   let a4 : St := a2.p [(15, (vB (!(p0.desc == p1.desc)))), (14, (vB p1.desc)), (13, (.ptr 3 10)), (12, (vB p0.desc)), (11, (.ptr 2 10))]
   refine st 5 a4 (nx ?_)
   refine cd h (fun h => ?_) fun h => ?_
   refine so ?_
   let a5 : St := a4.p [(4, (vB false))]
   refine st 1 a5 (nx (ri (tr ?_)))
   injection h with h; subst h
   exact ret1_step (v := (vB false)) (by kernel_rfl) (by kernel_rfl) (by kernel_rfl)
   refine ki (xi (so ?_))
   let a6 : St := a4.p [(4, (vB true))]
   refine st 1 a6 (nx (ri ?_))
   injection h with h; subst h
   exact ret1_step (v := (vB true)) (by kernel_rfl) (by kernel_rfl) (by kernel_rfl)
 · intro F_wEqSourceS_L0 OK_wEqSourceS_L0 p0 p1 r h
   refine acalls_of_fn trwEqSourceS (Nat.le_of_ble_eq_true rfl) (by simp) ?_
   show avc Try.prog acwEqSourceS (qwEqSourceS _) ⟨[(0, (.d (.sl 3 (p0.map cGSource)))), (1, (.d (.sl 3 (p1.map cGSource))))], []⟩
   delta acwEqSourceS
   refine so ?_
   let a0 : St := ⟨[(4, (vB false)), (0, (.d (.sl 3 (p0.map cGSource)))), (1, (.d (.sl 3 (p1.map cGSource))))], []⟩
   refine st 1 a0 (nx (si (so ?_)))
   let a1 : St := a0.p [(6, (.d (.sl 3 (p0.map cGSource))))]
   refine st 1 a1 (ps (vI (p0.length : Int)) (vop_len (sz := 3) (l := p0) (f := cGSource) (by kernel_rfl) (by kernel_rfl)) ?_)
   let a2 : St := a1.p [(8, (.d (.sl 3 (p1.map cGSource)))), (7, (vI (p0.length : Int)))]
   refine st 1 a2 (ps (vI (p1.length : Int)) (vop_len (sz := 3) (l := p1) (f := cGSource) (by kernel_rfl) (by kernel_rfl)) ?_)
   let a3 : St := a2.p [(10, (vB (!decide ((p0.length : Int) = (p1.length : Int))))), (9, (vI (p1.length : Int)))]
   refine st 1 a3 (nx ?_)
   refine cd h (fun h => ?_) fun h => ?_
   refine so ?_
   let a4 : St := a3.p [(4, (vB false))]
   refine st 1 a4 (nx (ri (tr ?_)))
   injection h with h; subst h
   exact ret1_step (v := (vB false)) (by kernel_rfl) (by kernel_rfl) (by kernel_rfl)
   refine ki (xi (si (so ?_)))
   let a5 : St := a3.p [(5, (vI 0))]
   exact st 1 a5 (nx (bi (loop_go (s' := stwEqSourceS_L0 p0 p1 0) (wr [] (es (es (es er_nil))) br_nil) (OK_wEqSourceS_L0 p0 p1 0 _ h))))
 · intro F_wEqSource F_wEqSourceS_L0 OK_wEqSource OK_wEqSourceS_L0 p0 p1 x5 r h
   delta acwEqSourceS_L0
   refine loop_unroll (si (so ?_))
   let a6 : St := (stwEqSourceS_L0 p0 p1 x5).p [(12, (.d (.sl 3 (p0.map cGSource)))), (11, (vI x5))]
   refine st 2 a6 (ps (vI (p0.length : Int)) (vop_len (sz := 3) (l := p0) (f := cGSource) (by kernel_rfl) (by kernel_rfl)) ?_)
   let a7 : St := a6.p [(14, (vB (decide (x5 < (p0.length : Int))))), (13, (vI (p0.length : Int)))]
   refine st 1 a7 (nx ?_)
   refine cd h (fun h => ?_) fun h => ?_
   refine ki (xi (si (bi (si (dops_in ?_)))))
   let a8 : St := a7.p [(18, (vI x5)), (17, (.d (.sl 3 (p0.map cGSource))))]
   refine dsts_ok 2 (s' := a8) (by kernel_rfl) (dv_step (m := idx p0 x5) (v' := fun y => (.rp (oGSource y))) h rfl rfl (fun y hy => vop_ia (l := p0) (f := cGSource) (g := oGSource) (k := .i64) hy cGSource_eq (by kernel_rfl) (by kernel_rfl) (by kernel_rfl)) ?_)
   clear h; intro y1 h
   let a9 : St := a8.p [(22, (vI x5)), (21, (.d (.sl 3 (p1.map cGSource)))), (20, (vGSource y1)), (19, (.rp (oGSource y1)))]
   refine dsts_ok 3 (s' := a9) (by kernel_rfl) (dv_step (m := idx p1 x5) (v' := fun y => (.rp (oGSource y))) h rfl rfl (fun y hy => vop_ia (l := p1) (f := cGSource) (g := oGSource) (k := .i64) hy cGSource_eq (by kernel_rfl) (by kernel_rfl) (by kernel_rfl)) ?_)
   clear h; intro y2 h
   let a10 : St := a9.p [(24, (vGSource y2)), (23, (.rp (oGSource y2)))]
   refine dsts_ok 1 (s' := a10) (by kernel_rfl) (dcall_step (m := F_wEqSource y1 y2) (args := [(vGSource y1), (vGSource y2)]) (v' := (fun y => (vB y))) h (OK_wEqSource y1 y2) (by kernel_rfl) (by kernel_rfl) (fun _ => rfl) ?_)
   clear h; intro y3 h
   let a11 : St := a10.p [(26, (vB (!y3))), (25, (vB y3))]
   refine dsts_ok 1 (s' := a11) (by kernel_rfl) (dnil_in (by kernel_rfl) (by kernel_rfl) (xi ?_))
   refine cd h (fun h => ?_) fun h => ?_
   refine so ?_
   let a12 : St := a11.p [(4, (vB false))]
   refine st 1 a12 (nx (ri (br (tr (tr (br (tr ?_)))))))
   injection h with h; subst h
   exact ret1_step (v := (vB false)) (by kernel_rfl) (by kernel_rfl) (by kernel_rfl)
   refine ki (bn (xi (oi ?_)))
   let a13 : St := a11.p [(5, (vI (IntKind.wrap .i64 (x5 + 1)))), (16, (vI (IntKind.wrap .i64 (x5 + 1)))), (15, (vI x5))]
   exact st 3 a13 (ni (loop_back (s' := stwEqSourceS_L0 p0 p1 (IntKind.wrap .i64 (x5 + 1))) (wr [] (es (es (es er_nil))) br_nil) (OK_wEqSourceS_L0 p0 p1 (IntKind.wrap .i64 (x5 + 1)) _ h)))
   refine ei (te (te (bh (xi (so ?_)))))
   let a14 : St := a7.p [(4, (vB true))]
   refine st 1 a14 (nx (ri ?_))
   injection h with h; subst h
   exact ret1_step (v := (vB true)) (by kernel_rfl) (by kernel_rfl) (by kernel_rfl)
 · intro F_wEqItemS_L0 OK_wEqItemS_L0 p0 p1 r h
   refine acalls_of_fn trwEqItemS (Nat.le_of_ble_eq_true rfl) (by simp) ?_
   show avc Try.prog acwEqItemS (qwEqItemS _) ⟨[(0, (.d (.sl 13 (p0.map cGItem)))), (1, (.d (.sl 13 (p1.map cGItem))))], []⟩
   delta acwEqItemS
   refine so ?_
   let a0 : St := ⟨[(4, (vB false)), (0, (.d (.sl 13 (p0.map cGItem)))), (1, (.d (.sl 13 (p1.map cGItem))))], []⟩
   refine st 1 a0 (nx (si (so ?_)))
   let a1 : St := a0.p [(6, (.d (.sl 13 (p0.map cGItem))))]
   refine st 1 a1 (ps (vI (p0.length : Int)) (vop_len (sz := 13) (l := p0) (f := cGItem) (by kernel_rfl) (by kernel_rfl)) ?_)
   let a2 : St := a1.p [(8, (.d (.sl 13 (p1.map cGItem)))), (7, (vI (p0.length : Int)))]
   refine st 1 a2 (ps (vI (p1.length : Int)) (vop_len (sz := 13) (l := p1) (f := cGItem) (by kernel_rfl) (by kernel_rfl)) ?_)
   let a3 : St := a2.p [(10, (vB (!decide ((p0.length : Int) = (p1.length : Int))))), (9, (vI (p1.length : Int)))]
   refine st 1 a3 (nx ?_)
   refine cd h (fun h => ?_) fun h => ?_
   refine so ?_
   let a4 : St := a3.p [(4, (vB false))]
   refine st 1 a4 (nx (ri (tr ?_)))
   injection h with h; subst h
   exact ret1_step (v := (vB false)) (by kernel_rfl) (by kernel_rfl) (by kernel_rfl)
   refine ki (xi (si (so ?_)))
   let a5 : St := a3.p [(5, (vI 0))]
   exact st 1 a5 (nx (bi (loop_go (s' := stwEqItemS_L0 p0 p1 0) (wr [] (es (es (es er_nil))) br_nil) (OK_wEqItemS_L0 p0 p1 0 _ h))))
 · intro F_wEqItemS_L0 F_wEqItem OK_wEqItemS_L0 OK_wEqItem p0 p1 x5 r h
   delta acwEqItemS_L0
   refine loop_unroll (si (so ?_))
   let a6 : St := (stwEqItemS_L0 p0 p1 x5).p [(12, (.d (.sl 13 (p0.map cGItem)))), (11, (vI x5))]
   refine st 2 a6 (ps (vI (p0.length : Int)) (vop_len (sz := 13) (l := p0) (f := cGItem) (by kernel_rfl) (by kernel_rfl)) ?_)
   let a7 : St := a6.p [(14, (vB (decide (x5 < (p0.length : Int))))), (13, (vI (p0.length : Int)))]
   refine st 1 a7 (nx ?_)
   refine cd h (fun h => ?_) fun h => ?_
   refine ki (xi (si (bi (si (dops_in ?_)))))
   let a8 : St := a7.p [(18, (vI x5)), (17, (.d (.sl 13 (p0.map cGItem))))]
   refine dsts_ok 2 (s' := a8) (by kernel_rfl) (dv_step (m := idx p0 x5) (v' := fun y => (.rp (oGItem y))) h rfl rfl (fun y hy => vop_ia (l := p0) (f := cGItem) (g := oGItem) (k := .i64) hy cGItem_eq (by kernel_rfl) (by kernel_rfl) (by kernel_rfl)) ?_)
   clear h; intro y1 h
   let a9 : St := a8.p [(22, (vI x5)), (21, (.d (.sl 13 (p1.map cGItem)))), (20, (vGItem y1)), (19, (.rp (oGItem y1)))]
   refine dsts_ok 3 (s' := a9) (by kernel_rfl) (dv_step (m := idx p1 x5) (v' := fun y => (.rp (oGItem y))) h rfl rfl (fun y hy => vop_ia (l := p1) (f := cGItem) (g := oGItem) (k := .i64) hy cGItem_eq (by kernel_rfl) (by kernel_rfl) (by kernel_rfl)) ?_)
   clear h; intro y2 h
   let a10 : St := a9.p [(24, (vGItem y2)), (23, (.rp (oGItem y2)))]
   refine dsts_ok 1 (s' := a10) (by kernel_rfl) (dcall_step (m := F_wEqItem y1 y2) (args := [(vGItem y1), (vGItem y2)]) (v' := (fun y => (vB y))) h (OK_wEqItem y1 y2) (by kernel_rfl) (by kernel_rfl) (fun _ => rfl) ?_)
   clear h; intro y3 h
   let a11 : St := a10.p [(26, (vB (!y3))), (25, (vB y3))]
   refine dsts_ok 1 (s' := a11) (by kernel_rfl) (dnil_in (by kernel_rfl) (by kernel_rfl) (xi ?_))
   refine cd h (fun h => ?_) fun h => ?_
   refine so ?_
   let a12 : St := a11.p [(4, (vB false))]
   refine st 1 a12 (nx (ri (br (tr (tr (br (tr ?_)))))))
   injection h with h; subst h
   exact ret1_step (v := (vB false)) (by kernel_rfl) (by kernel_rfl) (by kernel_rfl)
   refine ki (bn (xi (oi ?_)))
   let a13 : St := a11.p [(5, (vI (IntKind.wrap .i64 (x5 + 1)))), (16, (vI (IntKind.wrap .i64 (x5 + 1)))), (15, (vI x5))]
   exact st 3 a13 (ni (loop_back (s' := stwEqItemS_L0 p0 p1 (IntKind.wrap .i64 (x5 + 1))) (wr [] (es (es (es er_nil))) br_nil) (OK_wEqItemS_L0 p0 p1 (IntKind.wrap .i64 (x5 + 1)) _ h)))
   refine ei (te (te (bh (xi (so ?_)))))
   let a14 : St := a7.p [(4, (vB true))]
   refine st 1 a14 (nx (ri ?_))
   injection h with h; subst h
   exact ret1_step (v := (vB true)) (by kernel_rfl) (by kernel_rfl) (by kernel_rfl)
 · intro F_wEqExpr OK_wEqExpr p0 p1 r h
   refine acalls_of_fn trwEqItem (Nat.le_of_ble_eq_true rfl) (by simp) ?_
   show avc Try.prog acwEqItem (qwEqItem _) ⟨[(0, (vGItem p0)), (1, (vGItem p1))], []⟩
   delta acwEqItem
   refine so ?_
   let a0 : St := ⟨[(4, (vB false)), (3, (.ptr 3 0)), (2, (.ptr 2 0)), (0, (vGItem p0)), (1, (vGItem p1))], [(3, bGItem p1), (2, bGItem p0)]⟩
   refine st 3 a0 (nx (si (so ?_)))
   let a1 : St := a0.p [(9, (vB (!(p0.star == p1.star)))), (8, (vB p1.star)), (7, (.ptr 3 0)), (6, (vB p0.star)), (5, (.ptr 2 0))]
   refine st 5 a1 (nx ?_)
   refine cd h (fun h => ?_) fun h => ?_
   refine so ?_
   let a2 : St := a1.p [(4, (vB false))]
   refine st 1 a2 (nx (ri (tr ?_)))
   injection h with h; subst h
   exact ret1_step (v := (vB false)) (by kernel_rfl) (by kernel_rfl) (by kernel_rfl)
   refine ki (xi (si (so ?_)))
   let a3 : St := a1.p [(14, (vB (!decide (p0.qual = p1.qual)))), (13, (vS p1.qual)), (12, (.ptr 3 1)), (11, (vS p0.qual)), (10, (.ptr 2 1))]
   refine st 5 a3 (nx ?_)
   refine cd h (fun h => ?_) fun h => ?_
   refine so ?_
   let a4 : St := a3.p [(4, (vB false))]
   refine st 1 a4 (nx (ri (tr ?_)))
   injection h with h; subst h
   exact ret1_step (v := (vB false)) (by kernel_rfl) (by kernel_rfl) (by kernel_rfl)
   refine ki (xi (si (so ?_)))
   let a5 : St := a3.p [(18, (vGExpr p1.expr)), (17, (.ptr 3 2)), (16, (vGExpr p0.expr)), (15, (.ptr 2 2))]
   refine st 4 a5 (cs h (OK_wEqExpr p0.expr p1.expr) fun y1 h => ?_)
   let a6 : St := a5.p [(20, (vB (!y1))), (19, (vB y1))]
   refine st 1 a6 (nx ?_)
   refine cd h (fun h => ?_) fun h => ?_
   refine so ?_
   let a7 : St := a6.p [(4, (vB false))]
   refine st 1 a7 (nx (ri (tr ?_)))
   injection h with h; subst h
   exact ret1_step (v := (vB false)) (by kernel_rfl) (by kernel_rfl) (by kernel_rfl)
   refine ki (xi (si (so ?_)))
   let a8 : St := a6.p [(25, (vB (!decide (p0.as_ = p1.as_)))), (24, (vS p1.as_)), (23, (.ptr 3 12)), (22, (vS p0.as_)), (21, (.ptr 2 12))]
   refine st 5 a8 (nx ?_)
   refine cd h (fun h => ?_) fun h => ?_
   refine so ?_
   let a9 : St := a8.p [(4, (vB false))]
   refine st 1 a9 (nx (ri (tr ?_)))
   injection h with h; subst h
   exact ret1_step (v := (vB false)) (by kernel_rfl) (by kernel_rfl) (by kernel_rfl)
   refine ki (xi (so ?_))
   let a10 : St := a8.p [(4, (vB true))]
   refine st 1 a10 (nx (ri ?_))
   injection h with h; subst h
   exact ret1_step (v := (vB true)) (by kernel_rfl) (by kernel_rfl) (by kernel_rfl)
theorem OK_wEqSource (p0 : GSource) (p1 : GSource) : FOk Try.prog 124 [(vGSource p0), (vGSource p1)] (fun y => (vB y)) (wEqSource p0 p1) := fun r h => (OKs_wEqSource).1 p0 p1 r h
theorem OK_wEqExprS (p0 : (List GExpr)) (p1 : (List GExpr)) : FOk Try.prog 51 [(.d (.sl 10 (p0.map cGExpr))), (.d (.sl 10 (p1.map cGExpr)))] (fun y => (vB y)) (wEqExprS p0 p1) := fun r h => (OKs_wEqSource).2.1 p0 p1 r h
theorem OK_wEqExprS_L0 (p0 : (List GExpr)) (p1 : (List GExpr)) (x5 : Int) (r : Bool) (h : wEqExprS_L0 p0 p1 x5 = some r) : avc Try.prog acwEqExprS_L0 (qwEqExprS_1 r) (stwEqExprS_L0 p0 p1 x5) := (OKs_wEqSource).2.2.1 p0 p1 x5 r h
theorem OK_wEqExpr (p0 : GExpr) (p1 : GExpr) : FOk Try.prog 23 [(vGExpr p0), (vGExpr p1)] (fun y => (vB y)) (wEqExpr p0 p1) := fun r h => (OKs_wEqSource).2.2.2.1 p0 p1 r h
theorem OK_wEqQueryS (p0 : (List GQuery)) (p1 : (List GQuery)) : FOk Try.prog 78 [(.d (.sl 6 (p0.map cGQuery))), (.d (.sl 6 (p1.map cGQuery)))] (fun y => (vB y)) (wEqQueryS p0 p1) := fun r h => (OKs_wEqSource).2.2.2.2.1 p0 p1 r h
theorem OK_wEqQueryS_L0 (p0 : (List GQuery)) (p1 : (List GQuery)) (x5 : Int) (r : Bool) (h : wEqQueryS_L0 p0 p1 x5 = some r) : avc Try.prog acwEqQueryS_L0 (qwEqQueryS_1 r) (stwEqQueryS_L0 p0 p1 x5) := (OKs_wEqSource).2.2.2.2.2.1 p0 p1 x5 r h
theorem OK_wEqQuery (p0 : GQuery) (p1 : GQuery) : FOk Try.prog 18 [(vGQuery p0), (vGQuery p1)] (fun y => (vB y)) (wEqQuery p0 p1) := fun r h => (OKs_wEqSource).2.2.2.2.2.2.1 p0 p1 r h
theorem OK_wEqSortKeyS (p0 : (List GSortKey)) (p1 : (List GSortKey)) : FOk Try.prog 69 [(.d (.sl 11 (p0.map cGSortKey))), (.d (.sl 11 (p1.map cGSortKey)))] (fun y => (vB y)) (wEqSortKeyS p0 p1) := fun r h => (OKs_wEqSource).2.2.2.2.2.2.2.1 p0 p1 r h
theorem OK_wEqSortKeyS_L0 (p0 : (List GSortKey)) (p1 : (List GSortKey)) (x5 : Int) (r : Bool) (h : wEqSortKeyS_L0 p0 p1 x5 = some r) : avc Try.prog acwEqSortKeyS_L0 (qwEqSortKeyS_1 r) (stwEqSortKeyS_L0 p0 p1 x5) := (OKs_wEqSource).2.2.2.2.2.2.2.2.1 p0 p1 x5 r h
theorem OK_wEqSortKey (p0 : GSortKey) (p1 : GSortKey) : FOk Try.prog 125 [(vGSortKey p0), (vGSortKey p1)] (fun y => (vB y)) (wEqSortKey p0 p1) := fun r h => (OKs_wEqSource).2.2.2.2.2.2.2.2.2.1 p0 p1 r h
theorem OK_wEqSourceS (p0 : (List GSource)) (p1 : (List GSource)) : FOk Try.prog 68 [(.d (.sl 3 (p0.map cGSource))), (.d (.sl 3 (p1.map cGSource)))] (fun y => (vB y)) (wEqSourceS p0 p1) := fun r h => (OKs_wEqSource).2.2.2.2.2.2.2.2.2.2.1 p0 p1 r h
theorem OK_wEqSourceS_L0 (p0 : (List GSource)) (p1 : (List GSource)) (x5 : Int) (r : Bool) (h : wEqSourceS_L0 p0 p1 x5 = some r) : avc Try.prog acwEqSourceS_L0 (qwEqSourceS_1 r) (stwEqSourceS_L0 p0 p1 x5) := (OKs_wEqSource).2.2.2.2.2.2.2.2.2.2.2.1 p0 p1 x5 r h
theorem OK_wEqItemS (p0 : (List GItem)) (p1 : (List GItem)) : FOk Try.prog 67 [(.d (.sl 13 (p0.map cGItem))), (.d (.sl 13 (p1.map cGItem)))] (fun y => (vB y)) (wEqItemS p0 p1) := fun r h => (OKs_wEqSource).2.2.2.2.2.2.2.2.2.2.2.2.1 p0 p1 r h
theorem OK_wEqItemS_L0 (p0 : (List GItem)) (p1 : (List GItem)) (x5 : Int) (r : Bool) (h : wEqItemS_L0 p0 p1 x5 = some r) : avc Try.prog acwEqItemS_L0 (qwEqItemS_1 r) (stwEqItemS_L0 p0 p1 x5) := (OKs_wEqSource).2.2.2.2.2.2.2.2.2.2.2.2.2.1 p0 p1 x5 r h
theorem OK_wEqItem (p0 : GItem) (p1 : GItem) : FOk Try.prog 123 [(vGItem p0), (vGItem p1)] (fun y => (vB y)) (wEqItem p0 p1) := fun r h => (OKs_wEqSource).2.2.2.2.2.2.2.2.2.2.2.2.2.2 p0 p1 r h
theorem OK_wSzValue (p0 : GValue) (p1 : Int) : FOk Try.prog 70 [(vGValue p0), (vI p1)] (fun y => (vI y)) (wSzValue p0 p1) := by
 intro r h
 rw [wSzValue] at h
 refine acalls_of_fn trwSzValue (Nat.le_of_ble_eq_true rfl) (by simp) ?_
 show avc Try.prog acwSzValue (qwSzValue _) ⟨[(0, (vGValue p0)), (1, (vI p1))], []⟩
 delta acwSzValue
 refine so ?_
 let a0 : St := ⟨[(4, (vI 0)), (2, (.ptr 2 0)), (0, (vGValue p0)), (1, (vI p1))], [(2, bGValue p0)]⟩
 refine st 2 a0 (nx (so ?_))
 let a1 : St := a0.p [(1, (vI (IntKind.wrap .i64 (p1 - (p0.text.length : Int))))), (9, (vI (IntKind.wrap .i64 (p1 - (p0.text.length : Int))))), (8, (vI (p0.text.length : Int))), (7, (vS p0.text)), (6, (.ptr 2 2)), (5, (vI p1))]
 refine st 6 a1 (nx (si (so ?_)))
 let a2 : St := a1.p [(11, (vB (decide ((IntKind.wrap .i64 (p1 - (p0.text.length : Int))) < 0)))), (10, (vI (IntKind.wrap .i64 (p1 - (p0.text.length : Int)))))]
 refine st 2 a2 (nx ?_)
 refine cd h (fun h => ?_) fun h => ?_
 refine so ?_
 let a3 : St := a2.p [(4, (vI (-1)))]
 refine st 1 a3 (nx (ri (tr ?_)))
 injection h with h; subst h
 exact ret1_step (v := (vI (-1))) (by kernel_rfl) (by kernel_rfl) (by kernel_rfl)
 refine ki (xi (so ?_))
 let a4 : St := a2.p [(4, (vI (IntKind.wrap .i64 (p1 - (p0.text.length : Int))))), (12, (vI (IntKind.wrap .i64 (p1 - (p0.text.length : Int)))))]
 refine st 2 a4 (nx (ri ?_))
 injection h with h; subst h
 exact ret1_step (v := (vI (IntKind.wrap .i64 (p1 - (p0.text.length : Int))))) (by kernel_rfl) (by kernel_rfl) (by kernel_rfl)
theorem OKs_wSzSource : (∀ (p0 : GSource) (p1 : Int) (r : Int), wSzSource p0 p1 = some r → ACalls Try.prog 118 [(vGSource p0), (vI p1)] [] fun x _ => x = (fun y => (vI y)) r) ∧ (∀ (p0 : (List GExpr)) (p1 : Int) (r : Int), wSzExprS p0 p1 = some r → ACalls Try.prog 56 [(.d (.sl 10 (p0.map cGExpr))), (vI p1)] [] fun x _ => x = (fun y => (vI y)) r) ∧ (∀ (p0 : (List GExpr)) (x1 : Int) (x5 : Int) (r : Int), wSzExprS_L0 p0 x1 x5 = some r → avc Try.prog acwSzExprS_L0 (qwSzExprS_1 r) (stwSzExprS_L0 p0 x1 x5)) ∧ (∀ (p0 : GExpr) (p1 : Int) (r : Int), wSzExpr p0 p1 = some r → ACalls Try.prog 19 [(vGExpr p0), (vI p1)] [] fun x _ => x = (fun y => (vI y)) r) ∧ (∀ (p0 : (List GQuery)) (p1 : Int) (r : Int), wSzQueryS p0 p1 = some r → ACalls Try.prog 71 [(.d (.sl 6 (p0.map cGQuery))), (vI p1)] [] fun x _ => x = (fun y => (vI y)) r) ∧ (∀ (p0 : (List GQuery)) (x1 : Int) (x5 : Int) (r : Int), wSzQueryS_L0 p0 x1 x5 = some r → avc Try.prog acwSzQueryS_L0 (qwSzQueryS_1 r) (stwSzQueryS_L0 p0 x1 x5)) ∧ (∀ (p0 : GQuery) (p1 : Int) (r : Int), wSzQuery p0 p1 = some r → ACalls Try.prog 14 [(vGQuery p0), (vI p1)] [] fun x _ => x = (fun y => (vI y)) r) ∧ (∀ (p0 : (List GSortKey)) (p1 : Int) (r : Int), wSzSortKeyS p0 p1 = some r → ACalls Try.prog 57 [(.d (.sl 11 (p0.map cGSortKey))), (vI p1)] [] fun x _ => x = (fun y => (vI y)) r) ∧ (∀ (p0 : (List GSortKey)) (x1 : Int) (x5 : Int) (r : Int), wSzSortKeyS_L0 p0 x1 x5 = some r → avc Try.prog acwSzSortKeyS_L0 (qwSzSortKeyS_1 r) (stwSzSortKeyS_L0 p0 x1 x5)) ∧ (∀ (p0 : GSortKey) (p1 : Int) (r : Int), wSzSortKey p0 p1 = some r → ACalls Try.prog 119 [(vGSortKey p0), (vI p1)] [] fun x _ => x = (fun y => (vI y)) r) ∧ (∀ (p0 : (List GSource)) (p1 : Int) (r : Int), wSzSourceS p0 p1 = some r → ACalls Try.prog 55 [(.d (.sl 3 (p0.map cGSource))), (vI p1)] [] fun x _ => x = (fun y => (vI y)) r) ∧ (∀ (p0 : (List GSource)) (x1 : Int) (x5 : Int) (r : Int), wSzSourceS_L0 p0 x1 x5 = some r → avc Try.prog acwSzSourceS_L0 (qwSzSourceS_1 r) (stwSzSourceS_L0 p0 x1 x5)) ∧ (∀ (p0 : (List GItem)) (p1 : Int) (r : Int), wSzItemS p0 p1 = some r → ACalls Try.prog 54 [(.d (.sl 13 (p0.map cGItem))), (vI p1)] [] fun x _ => x = (fun y => (vI y)) r) ∧ (∀ (p0 : (List GItem)) (x1 : Int) (x5 : Int) (r : Int), wSzItemS_L0 p0 x1 x5 = some r → avc Try.prog acwSzItemS_L0 (qwSzItemS_1 r) (stwSzItemS_L0 p0 x1 x5)) ∧ (∀ (p0 : GItem) (p1 : Int) (r : Int), wSzItem p0 p1 = some r → ACalls Try.prog 117 [(vGItem p0), (vI p1)] [] fun x _ => x = (fun y => (vI y)) r) := by
 refine wSzSource.mutual_partial_correctness (fun p0 p1 r => ACalls Try.prog 118 [(vGSource p0), (vI p1)] [] fun x _ => x = (fun y => (vI y)) r) (fun p0 p1 r => ACalls Try.prog 56 [(.d (.sl 10 (p0.map cGExpr))), (vI p1)] [] fun x _ => x = (fun y => (vI y)) r) (fun p0 x1 x5 r => avc Try.prog acwSzExprS_L0 (qwSzExprS_1 r) (stwSzExprS_L0 p0 x1 x5)) (fun p0 p1 r => ACalls Try.prog 19 [(vGExpr p0), (vI p1)] [] fun x _ => x = (fun y => (vI y)) r) (fun p0 p1 r => ACalls Try.prog 71 [(.d (.sl 6 (p0.map cGQuery))), (vI p1)] [] fun x _ => x = (fun y => (vI y)) r) (fun p0 x1 x5 r => avc Try.prog acwSzQueryS_L0 (qwSzQueryS_1 r) (stwSzQueryS_L0 p0 x1 x5)) (fun p0 p1 r => ACalls Try.prog 14 [(vGQuery p0), (vI p1)] [] fun x _ => x = (fun y => (vI y)) r) (fun p0 p1 r => ACalls Try.prog 57 [(.d (.sl 11 (p0.map cGSortKey))), (vI p1)] [] fun x _ => x = (fun y => (vI y)) r) (fun p0 x1 x5 r => avc Try.prog acwSzSortKeyS_L0 (qwSzSortKeyS_1 r) (stwSzSortKeyS_L0 p0 x1 x5)) (fun p0 p1 r => ACalls Try.prog 119 [(vGSortKey p0), (vI p1)] [] fun x _ => x = (fun y => (vI y)) r) (fun p0 p1 r => ACalls Try.prog 55 [(.d (.sl 3 (p0.map cGSource))), (vI p1)] [] fun x _ => x = (fun y => (vI y)) r) (fun p0 x1 x5 r => avc Try.prog acwSzSourceS_L0 (qwSzSourceS_1 r) (stwSzSourceS_L0 p0 x1 x5)) (fun p0 p1 r => ACalls Try.prog 54 [(.d (.sl 13 (p0.map cGItem))), (vI p1)] [] fun x _ => x = (fun y => (vI y)) r) (fun p0 x1 x5 r => avc Try.prog acwSzItemS_L0 (qwSzItemS_1 r) (stwSzItemS_L0 p0 x1 x5)) (fun p0 p1 r => ACalls Try.prog 117 [(vGItem p0), (vI p1)] [] fun x _ => x = (fun y => (vI y)) r) ?_ ?_ ?_ ?_ ?_ ?_ ?_ ?_ ?_ ?_ ?_ ?_ ?_ ?_ ?_
 · intro F_wSzExprS OK_wSzExprS p0 p1 r h
   refine acalls_of_fn trwSzSource (Nat.le_of_ble_eq_true rfl) (by simp) ?_
   show avc Try.prog acwSzSource (qwSzSource _) ⟨[(0, (vGSource p0)), (1, (vI p1))], []⟩
   delta acwSzSource
   refine so ?_
   let a0 : St := ⟨[(4, (vI 0)), (2, (.ptr 2 0)), (0, (vGSource p0)), (1, (vI p1))], [(2, bGSource p0)]⟩
   refine st 2 a0 (nx (so ?_))
   let a1 : St := a0.p [(1, (vI (IntKind.wrap .i64 (p1 - (p0.table.length : Int))))), (9, (vI (IntKind.wrap .i64 (p1 - (p0.table.length : Int))))), (8, (vI (p0.table.length : Int))), (7, (vS p0.table)), (6, (.ptr 2 0)), (5, (vI p1))]
   refine st 6 a1 (nx (si (so ?_)))
   let a2 : St := a1.p [(11, (vB (decide ((IntKind.wrap .i64 (p1 - (p0.table.length : Int))) < 0)))), (10, (vI (IntKind.wrap .i64 (p1 - (p0.table.length : Int)))))]
   refine st 2 a2 (nx ?_)
   refine cd h (fun h => ?_) fun h => ?_
   refine so ?_
   let a3 : St := a2.p [(4, (vI (-1)))]
   refine st 1 a3 (nx (ri (tr ?_)))
   injection h with h; subst h
   exact ret1_step (v := (vI (-1))) (by kernel_rfl) (by kernel_rfl) (by kernel_rfl)
   refine ki (xi (so ?_))
   let a4 : St := a2.p [(1, (vI (IntKind.wrap .i64 ((IntKind.wrap .i64 (p1 - (p0.table.length : Int))) - (p0.as_.length : Int))))), (16, (vI (IntKind.wrap .i64 ((IntKind.wrap .i64 (p1 - (p0.table.length : Int))) - (p0.as_.length : Int))))), (15, (vI (p0.as_.length : Int))), (14, (vS p0.as_)), (13, (.ptr 2 1)), (12, (vI (IntKind.wrap .i64 (p1 - (p0.table.length : Int)))))]
   refine st 6 a4 (nx (si (so ?_)))
   let a5 : St := a4.p [(18, (vB (decide ((IntKind.wrap .i64 ((IntKind.wrap .i64 (p1 - (p0.table.length : Int))) - (p0.as_.length : Int))) < 0)))), (17, (vI (IntKind.wrap .i64 ((IntKind.wrap .i64 (p1 - (p0.table.length : Int))) - (p0.as_.length : Int)))))]
   refine st 2 a5 (nx ?_)
   refine cd h (fun h => ?_) fun h => ?_
   refine so ?_
   let a6 : St := a5.p [(4, (vI (-1)))]
   refine st 1 a6 (nx (ri (tr ?_)))
   injection h with h; subst h
   exact ret1_step (v := (vI (-1))) (by kernel_rfl) (by kernel_rfl) (by kernel_rfl)
   refine ki (xi (so ?_))
   let a7 : St := a5.p [(21, (vI (IntKind.wrap .i64 ((IntKind.wrap .i64 (p1 - (p0.table.length : Int))) - (p0.as_.length : Int))))), (20, (.d (.sl 10 (p0.on_.map cGExpr)))), (19, (.ptr 2 2))]
   refine st 3 a7 (cs h (OK_wSzExprS p0.on_ (IntKind.wrap .i64 ((IntKind.wrap .i64 (p1 - (p0.table.length : Int))) - (p0.as_.length : Int)))) fun y1 h => ?_)
   let a8 : St := a7.p [(1, (vI y1)), (22, (vI y1))]
   refine st 1 a8 (nx (si (so ?_)))
   let a9 : St := a8.p [(24, (vB (decide (y1 < 0)))), (23, (vI y1))]
   refine st 2 a9 (nx ?_)
   refine cd h (fun h => ?_) fun h => ?_
   refine so ?_
   let a10 : St := a9.p [(4, (vI (-1)))]
   refine st 1 a10 (nx (ri (tr ?_)))
   injection h with h; subst h
   exact ret1_step (v := (vI (-1))) (by kernel_rfl) (by kernel_rfl) (by kernel_rfl)
   refine ki (xi (so ?_))
   let a11 : St := a9.p [(4, (vI y1)), (25, (vI y1))]
   refine st 2 a11 (nx (ri ?_))
   injection h with h; subst h
   exact ret1_step (v := (vI y1)) (by kernel_rfl) (by kernel_rfl) (by kernel_rfl)
 · intro F_wSzExprS_L0 OK_wSzExprS_L0 p0 p1 r h
   refine acalls_of_fn trwSzExprS (Nat.le_of_ble_eq_true rfl) (by simp) ?_
   show avc Try.prog acwSzExprS (qwSzExprS _) ⟨[(0, (.d (.sl 10 (p0.map cGExpr)))), (1, (vI p1))], []⟩
   delta acwSzExprS
   refine so ?_
   let a0 : St := ⟨[(4, (vI 0)), (0, (.d (.sl 10 (p0.map cGExpr)))), (1, (vI p1))], []⟩
   refine st 1 a0 (nx (so ?_))
   let a1 : St := a0.p [(7, (.d (.sl 10 (p0.map cGExpr)))), (6, (vI p1))]
   refine st 2 a1 (ps (vI (p0.length : Int)) (vop_len (sz := 10) (l := p0) (f := cGExpr) (by kernel_rfl) (by kernel_rfl)) ?_)
   let a2 : St := a1.p [(1, (vI (IntKind.wrap .i64 (p1 - (p0.length : Int))))), (9, (vI (IntKind.wrap .i64 (p1 - (p0.length : Int))))), (8, (vI (p0.length : Int)))]
   refine st 2 a2 (nx (si (so ?_)))
   let a3 : St := a2.p [(11, (vB (decide ((IntKind.wrap .i64 (p1 - (p0.length : Int))) < 0)))), (10, (vI (IntKind.wrap .i64 (p1 - (p0.length : Int)))))]
   refine st 2 a3 (nx ?_)
   refine cd h (fun h => ?_) fun h => ?_
   refine so ?_
   let a4 : St := a3.p [(4, (vI (-1)))]
   refine st 1 a4 (nx (ri (tr ?_)))
   injection h with h; subst h
   exact ret1_step (v := (vI (-1))) (by kernel_rfl) (by kernel_rfl) (by kernel_rfl)
   refine ki (xi (si (so ?_)))
   let a5 : St := a3.p [(5, (vI 0))]
   exact st 1 a5 (nx (bi (loop_go (s' := stwSzExprS_L0 p0 (IntKind.wrap .i64 (p1 - (p0.length : Int))) 0) (wr [] (es (es (es er_nil))) br_nil) (OK_wSzExprS_L0 p0 (IntKind.wrap .i64 (p1 - (p0.length : Int))) 0 _ h))))
 · intro F_wSzExprS_L0 F_wSzExpr OK_wSzExprS_L0 OK_wSzExpr p0 x1 x5 r h
   delta acwSzExprS_L0
   refine loop_unroll (si (so ?_))
   let a6 : St := (stwSzExprS_L0 p0 x1 x5).p [(13, (.d (.sl 10 (p0.map cGExpr)))), (12, (vI x5))]
   refine st 2 a6 (ps (vI (p0.length : Int)) (vop_len (sz := 10) (l := p0) (f := cGExpr) (by kernel_rfl) (by kernel_rfl)) ?_)
   let a7 : St := a6.p [(15, (vB (decide (x5 < (p0.length : Int))))), (14, (vI (p0.length : Int)))]
   refine st 1 a7 (nx ?_)
   refine cd h (fun h => ?_) fun h => ?_
   refine ki (xi (si (bi (so ?_))))
   let a8 : St := a7.p [(19, (vI x5)), (18, (.d (.sl 10 (p0.map cGExpr))))]
   refine st 2 a8 (vs (fun (y : GExpr) => (.rp (oGExpr y))) h (fun y hy => vop_ia (l := p0) (f := cGExpr) (g := oGExpr) (k := .i64) hy cGExpr_eq (by kernel_rfl) (by kernel_rfl) (by kernel_rfl)) fun y1 h => ?_)
   let a9 : St := a8.p [(22, (vI x1)), (21, (vGExpr y1)), (20, (.rp (oGExpr y1)))]
   refine st 2 a9 (cs h (OK_wSzExpr y1 x1) fun y2 h => ?_)
   let a10 : St := a9.p [(1, (vI y2)), (23, (vI y2))]
   refine st 1 a10 (nx (so ?_))
   let a11 : St := a10.p [(25, (vB (decide (y2 < 0)))), (24, (vI y2))]
   refine st 2 a11 (nx ?_)
   refine cd h (fun h => ?_) fun h => ?_
   refine so ?_
   let a12 : St := a11.p [(4, (vI (-1)))]
   refine st 1 a12 (nx (ri (br (tr (tr (br (tr ?_)))))))
   injection h with h; subst h
   exact ret1_step (v := (vI (-1))) (by kernel_rfl) (by kernel_rfl) (by kernel_rfl)
   refine ki (bn (xi (oi ?_)))
   let a13 : St := a11.p [(5, (vI (IntKind.wrap .i64 (x5 + 1)))), (17, (vI (IntKind.wrap .i64 (x5 + 1)))), (16, (vI x5))]
   exact st 3 a13 (ni (loop_back (s' := stwSzExprS_L0 p0 y2 (IntKind.wrap .i64 (x5 + 1))) (wr [] (es (es (es er_nil))) br_nil) (OK_wSzExprS_L0 p0 y2 (IntKind.wrap .i64 (x5 + 1)) _ h)))
   refine ei (te (te (bh (xi (so ?_)))))
   let a14 : St := a7.p [(4, (vI x1)), (26, (vI x1))]
   refine st 2 a14 (nx (ri ?_))
   injection h with h; subst h
   exact ret1_step (v := (vI x1)) (by kernel_rfl) (by kernel_rfl) (by kernel_rfl)
 · intro F_wSzExprS F_wSzQueryS OK_wSzExprS OK_wSzQueryS p0 p1 r h
   refine acalls_of_fn trwSzExpr (Nat.le_of_ble_eq_true rfl) (by simp) ?_
   show avc Try.prog acwSzExpr (qwSzExpr _) ⟨[(0, (vGExpr p0)), (1, (vI p1))], []⟩
   delta acwSzExpr
   refine so ?_
   let a0 : St := ⟨[(4, (vI 0)), (2, (.ptr 2 0)), (0, (vGExpr p0)), (1, (vI p1))], [(2, bGExpr p0)]⟩
   refine st 2 a0 (nx (so ?_))
   let a1 : St := a0.p [(7, (vI p1)), (6, (vGValue p0.value)), (5, (.ptr 2 3))]
   refine st 3 a1 (cs h (OK_wSzValue p0.value p1) fun y1 h => ?_)
   let a2 : St := a1.p [(1, (vI y1)), (8, (vI y1))]
   refine st 1 a2 (nx (si (so ?_)))
   let a3 : St := a2.p [(10, (vB (decide (y1 < 0)))), (9, (vI y1))]
   refine st 2 a3 (nx ?_)
   refine cd h (fun h => ?_) fun h => ?_
   refine so ?_
   let a4 : St := a3.p [(4, (vI (-1)))]
   refine st 1 a4 (nx (ri (tr ?_)))
   injection h with h; subst h
   exact ret1_step (v := (vI (-1))) (by kernel_rfl) (by kernel_rfl) (by kernel_rfl)
   refine ki (xi (so ?_))
   let a5 : St := a3.p [(1, (vI (IntKind.wrap .i64 (y1 - (p0.qual.length : Int))))), (15, (vI (IntKind.wrap .i64 (y1 - (p0.qual.length : Int))))), (14, (vI (p0.qual.length : Int))), (13, (vS p0.qual)), (12, (.ptr 2 6)), (11, (vI y1))]
   refine st 6 a5 (nx (si (so ?_)))
   let a6 : St := a5.p [(17, (vB (decide ((IntKind.wrap .i64 (y1 - (p0.qual.length : Int))) < 0)))), (16, (vI (IntKind.wrap .i64 (y1 - (p0.qual.length : Int)))))]
   refine st 2 a6 (nx ?_)
   refine cd h (fun h => ?_) fun h => ?_
   refine so ?_
   let a7 : St := a6.p [(4, (vI (-1)))]
   refine st 1 a7 (nx (ri (tr ?_)))
   injection h with h; subst h
   exact ret1_step (v := (vI (-1))) (by kernel_rfl) (by kernel_rfl) (by kernel_rfl)
   refine ki (xi (so ?_))
   let a8 : St := a6.p [(1, (vI (IntKind.wrap .i64 ((IntKind.wrap .i64 (y1 - (p0.qual.length : Int))) - (p0.name.length : Int))))), (22, (vI (IntKind.wrap .i64 ((IntKind.wrap .i64 (y1 - (p0.qual.length : Int))) - (p0.name.length : Int))))), (21, (vI (p0.name.length : Int))), (20, (vS p0.name)), (19, (.ptr 2 7)), (18, (vI (IntKind.wrap .i64 (y1 - (p0.qual.length : Int)))))]
   refine st 6 a8 (nx (si (so ?_)))
   let a9 : St := a8.p [(24, (vB (decide ((IntKind.wrap .i64 ((IntKind.wrap .i64 (y1 - (p0.qual.length : Int))) - (p0.name.length : Int))) < 0)))), (23, (vI (IntKind.wrap .i64 ((IntKind.wrap .i64 (y1 - (p0.qual.length : Int))) - (p0.name.length : Int)))))]
   refine st 2 a9 (nx ?_)
   refine cd h (fun h => ?_) fun h => ?_
   refine so ?_
   let a10 : St := a9.p [(4, (vI (-1)))]
   refine st 1 a10 (nx (ri (tr ?_)))
   injection h with h; subst h
   exact ret1_step (v := (vI (-1))) (by kernel_rfl) (by kernel_rfl) (by kernel_rfl)
   refine ki (xi (so ?_))
   let a11 : St := a9.p [(27, (vI (IntKind.wrap .i64 ((IntKind.wrap .i64 (y1 - (p0.qual.length : Int))) - (p0.name.length : Int))))), (26, (.d (.sl 10 (p0.kids.map cGExpr)))), (25, (.ptr 2 8))]
   refine st 3 a11 (cs h (OK_wSzExprS p0.kids (IntKind.wrap .i64 ((IntKind.wrap .i64 (y1 - (p0.qual.length : Int))) - (p0.name.length : Int)))) fun y2 h => ?_)
   let a12 : St := a11.p [(1, (vI y2)), (28, (vI y2))]
   refine st 1 a12 (nx (si (so ?_)))
   let a13 : St := a12.p [(30, (vB (decide (y2 < 0)))), (29, (vI y2))]
   refine st 2 a13 (nx ?_)
   refine cd h (fun h => ?_) fun h => ?_
   refine so ?_
   let a14 : St := a13.p [(4, (vI (-1)))]
   refine st 1 a14 (nx (ri (tr ?_)))
   injection h with h; subst h
   exact ret1_step (v := (vI (-1))) (by kernel_rfl) (by kernel_rfl) (by kernel_rfl)
   refine ki (xi (so ?_))
   let a15 : St := a13.p [(33, (vI y2)), (32, (.d (.sl 6 (p0.sub.map cGQuery)))), (31, (.ptr 2 9))]
   refine st 3 a15 (cs h (OK_wSzQueryS p0.sub y2) fun y3 h => ?_)
   let a16 : St := a15.p [(1, (vI y3)), (34, (vI y3))]
   refine st 1 a16 (nx (si (so ?_)))
   let a17 : St := a16.p [(36, (vB (decide (y3 < 0)))), (35, (vI y3))]
   refine st 2 a17 (nx ?_)
   refine cd h (fun h => ?_) fun h => ?_
   refine so ?_
   let a18 : St := a17.p [(4, (vI (-1)))]
   refine st 1 a18 (nx (ri (tr ?_)))
   injection h with h; subst h
   exact ret1_step (v := (vI (-1))) (by kernel_rfl) (by kernel_rfl) (by kernel_rfl)
   refine ki (xi (so ?_))
   let a19 : St := a17.p [(4, (vI y3)), (37, (vI y3))]
   refine st 2 a19 (nx (ri ?_))
   injection h with h; subst h
   exact ret1_step (v := (vI y3)) (by kernel_rfl) (by kernel_rfl) (by kernel_rfl)
 · intro F_wSzQueryS_L0 OK_wSzQueryS_L0 p0 p1 r h
   refine acalls_of_fn trwSzQueryS (Nat.le_of_ble_eq_true rfl) (by simp) ?_
   show avc Try.prog acwSzQueryS (qwSzQueryS _) ⟨[(0, (.d (.sl 6 (p0.map cGQuery)))), (1, (vI p1))], []⟩
   delta acwSzQueryS
   refine so ?_
   let a0 : St := ⟨[(4, (vI 0)), (0, (.d (.sl 6 (p0.map cGQuery)))), (1, (vI p1))], []⟩
   refine st 1 a0 (nx (so ?_))
   let a1 : St := a0.p [(7, (.d (.sl 6 (p0.map cGQuery)))), (6, (vI p1))]
   refine st 2 a1 (ps (vI (p0.length : Int)) (vop_len (sz := 6) (l := p0) (f := cGQuery) (by kernel_rfl) (by kernel_rfl)) ?_)
   let a2 : St := a1.p [(1, (vI (IntKind.wrap .i64 (p1 - (p0.length : Int))))), (9, (vI (IntKind.wrap .i64 (p1 - (p0.length : Int))))), (8, (vI (p0.length : Int)))]
   refine st 2 a2 (nx (si (so ?_)))
   let a3 : St := a2.p [(11, (vB (decide ((IntKind.wrap .i64 (p1 - (p0.length : Int))) < 0)))), (10, (vI (IntKind.wrap .i64 (p1 - (p0.length : Int)))))]
   refine st 2 a3 (nx ?_)
   refine cd h (fun h => ?_) fun h => ?_
   refine so ?_
   let a4 : St := a3.p [(4, (vI (-1)))]
   refine st 1 a4 (nx (ri (tr ?_)))
   injection h with h; subst h
   exact ret1_step (v := (vI (-1))) (by kernel_rfl) (by kernel_rfl) (by kernel_rfl)
   refine ki (xi (si (so ?_)))
   let a5 : St := a3.p [(5, (vI 0))]
   exact st 1 a5 (nx (bi (loop_go (s' := stwSzQueryS_L0 p0 (IntKind.wrap .i64 (p1 - (p0.length : Int))) 0) (wr [] (es (es (es er_nil))) br_nil) (OK_wSzQueryS_L0 p0 (IntKind.wrap .i64 (p1 - (p0.length : Int))) 0 _ h))))
 · intro F_wSzQueryS_L0 F_wSzQuery OK_wSzQueryS_L0 OK_wSzQuery p0 x1 x5 r h
   delta acwSzQueryS_L0
   refine loop_unroll (si (so ?_))
   let a6 : St := (stwSzQueryS_L0 p0 x1 x5).p [(13, (.d (.sl 6 (p0.map cGQuery)))), (12, (vI x5))]
   refine st 2 a6 (ps (vI (p0.length : Int)) (vop_len (sz := 6) (l := p0) (f := cGQuery) (by kernel_rfl) (by kernel_rfl)) ?_)
   let a7 : St := a6.p [(15, (vB (decide (x5 < (p0.length : Int))))), (14, (vI (p0.length : Int)))]
   refine st 1 a7 (nx ?_)
   refine cd h (fun h => ?_) fun h => ?_
   refine ki (xi (si (bi (so ?_))))
   let a8 : St := a7.p [(19, (vI x5)), (18, (.d (.sl 6 (p0.map cGQuery))))]
   refine st 2 a8 (vs (fun (y : GQuery) => (.rp (oGQuery y))) h (fun y hy => vop_ia (l := p0) (f := cGQuery) (g := oGQuery) (k := .i64) hy cGQuery_eq (by kernel_rfl) (by kernel_rfl) (by kernel_rfl)) fun y1 h => ?_)
   let a9 : St := a8.p [(22, (vI x1)), (21, (vGQuery y1)), (20, (.rp (oGQuery y1)))]
   refine st 2 a9 (cs h (OK_wSzQuery y1 x1) fun y2 h => ?_)
   let a10 : St := a9.p [(1, (vI y2)), (23, (vI y2))]
   refine st 1 a10 (nx (so ?_))
   let a11 : St := a10.p [(25, (vB (decide (y2 < 0)))), (24, (vI y2))]
   refine st 2 a11 (nx ?_)
   refine cd h (fun h => ?_) fun h => ?_
   refine so ?_
   let a12 : St := a11.p [(4, (vI (-1)))]
   refine st 1 a12 (nx (ri (br (tr (tr (br (tr ?_)))))))
   injection h with h; subst h
   exact ret1_step (v := (vI (-1))) (by kernel_rfl) (by kernel_rfl) (by kernel_rfl)
   refine ki (bn (xi (oi ?_)))
   let a13 : St := a11.p [(5, (vI (IntKind.wrap .i64 (x5 + 1)))), (17, (vI (IntKind.wrap .i64 (x5 + 1)))), (16, (vI x5))]
   exact st 3 a13 (ni (loop_back (s' := stwSzQueryS_L0 p0 y2 (IntKind.wrap .i64 (x5 + 1))) (wr [] (es (es (es er_nil))) br_nil) (OK_wSzQueryS_L0 p0 y2 (IntKind.wrap .i64 (x5 + 1)) _ h)))
   refine ei (te (te (bh (xi (so ?_)))))
   let a14 : St := a7.p [(4, (vI x1)), (26, (vI x1))]
   refine st 2 a14 (nx (ri ?_))
   injection h with h; subst h
   exact ret1_step (v := (vI x1)) (by kernel_rfl) (by kernel_rfl) (by kernel_rfl)
 · intro F_wSzExprS F_wSzSortKeyS F_wSzSourceS F_wSzItemS OK_wSzExprS OK_wSzSortKeyS OK_wSzSourceS OK_wSzItemS p0 p1 r h
   refine acalls_of_fn trwSzQuery (Nat.le_of_ble_eq_true rfl) (by simp) ?_
   show avc Try.prog acwSzQuery (qwSzQuery _) ⟨[(0, (vGQuery p0)), (1, (vI p1))], []⟩
   delta acwSzQuery
   refine so ?_
   let a0 : St := ⟨[(4, (vI 0)), (2, (.ptr 2 0)), (0, (vGQuery p0)), (1, (vI p1))], [(2, bGQuery p0)]⟩
   refine st 2 a0 (nx (so ?_))
   let a1 : St := a0.p [(7, (vI p1)), (6, (.d (.sl 13 (p0.items.map cGItem)))), (5, (.ptr 2 1))]
   refine st 3 a1 (cs h (OK_wSzItemS p0.items p1) fun y1 h => ?_)
   let a2 : St := a1.p [(1, (vI y1)), (8, (vI y1))]
   refine st 1 a2 (nx (si (so ?_)))
   let a3 : St := a2.p [(10, (vB (decide (y1 < 0)))), (9, (vI y1))]
   refine st 2 a3 (nx ?_)
   refine cd h (fun h => ?_) fun h => ?_
   refine so ?_
   let a4 : St := a3.p [(4, (vI (-1)))]
   refine st 1 a4 (nx (ri (tr ?_)))
   injection h with h; subst h
   exact ret1_step (v := (vI (-1))) (by kernel_rfl) (by kernel_rfl) (by kernel_rfl)
   refine ki (xi (so ?_))
   let a5 : St := a3.p [(13, (vI y1)), (12, (.d (.sl 3 (p0.from_.map cGSource)))), (11, (.ptr 2 2))]
   refine st 3 a5 (cs h (OK_wSzSourceS p0.from_ y1) fun y2 h => ?_)
   let a6 : St := a5.p [(1, (vI y2)), (14, (vI y2))]
   refine st 1 a6 (nx (si (so ?_)))
   let a7 : St := a6.p [(16, (vB (decide (y2 < 0)))), (15, (vI y2))]
   refine st 2 a7 (nx ?_)
   refine cd h (fun h => ?_) fun h => ?_
   refine so ?_
   let a8 : St := a7.p [(4, (vI (-1)))]
   refine st 1 a8 (nx (ri (tr ?_)))
   injection h with h; subst h
   exact ret1_step (v := (vI (-1))) (by kernel_rfl) (by kernel_rfl) (by kernel_rfl)
   refine ki (xi (so ?_))
   let a9 : St := a7.p [(19, (vI y2)), (18, (.d (.sl 10 (p0.where_.map cGExpr)))), (17, (.ptr 2 3))]
   refine st 3 a9 (cs h (OK_wSzExprS p0.where_ y2) fun y3 h => ?_)
   let a10 : St := a9.p [(1, (vI y3)), (20, (vI y3))]
   refine st 1 a10 (nx (si (so ?_)))
   let a11 : St := a10.p [(22, (vB (decide (y3 < 0)))), (21, (vI y3))]
   refine st 2 a11 (nx ?_)
   refine cd h (fun h => ?_) fun h => ?_
   refine so ?_
   let a12 : St := a11.p [(4, (vI (-1)))]
   refine st 1 a12 (nx (ri (tr ?_)))
   injection h with h; subst h
   exact ret1_step (v := (vI (-1))) (by kernel_rfl) (by kernel_rfl) (by kernel_rfl)
   refine ki (xi (so ?_))
   let a13 : St := a11.p [(25, (vI y3)), (24, (.d (.sl 11 (p0.order.map cGSortKey)))), (23, (.ptr 2 4))]
   refine st 3 a13 (cs h (OK_wSzSortKeyS p0.order y3) fun y4 h => ?_)
   let a14 : St := a13.p [(1, (vI y4)), (26, (vI y4))]
   refine st 1 a14 (nx (si (so ?_)))
   let a15 : St := a14.p [(28, (vB (decide (y4 < 0)))), (27, (vI y4))]
   refine st 2 a15 (nx ?_)
   refine cd h (fun h => ?_) fun h => ?_
   refine so ?_
   let a16 : St := a15.p [(4, (vI (-1)))]
   refine st 1 a16 (nx (ri (tr ?_)))
   injection h with h; subst h
   exact ret1_step (v := (vI (-1))) (by kernel_rfl) (by kernel_rfl) (by kernel_rfl)
   refine ki (xi (so ?_))
   let a17 : St := a15.p [(4, (vI y4)), (29, (vI y4))]
   refine st 2 a17 (nx (ri ?_))
   injection h with h; subst h
   exact ret1_step (v := (vI y4)) (by kernel_rfl) (by kernel_rfl) (by kernel_rfl)
 · intro F_wSzSortKeyS_L0 OK_wSzSortKeyS_L0 p0 p1 r h
   refine acalls_of_fn trwSzSortKeyS (Nat.le_of_ble_eq_true rfl) (by simp) ?_
   show avc Try.prog acwSzSortKeyS (qwSzSortKeyS _) ⟨[(0, (.d (.sl 11 (p0.map cGSortKey)))), (1, (vI p1))], []⟩
   delta acwSzSortKeyS
   refine so ?_
   let a0 : St := ⟨[(4, (vI 0)), (0, (.d (.sl 11 (p0.map cGSortKey)))), (1, (vI p1))], []⟩
   refine st 1 a0 (nx (so ?_))
   let a1 : St := a0.p [(7, (.d (.sl 11 (p0.map cGSortKey)))), (6, (vI p1))]
   refine st 2 a1 (ps (vI (p0.length : Int)) (vop_len (sz := 11) (l := p0) (f := cGSortKey) (by kernel_rfl) (by kernel_rfl)) ?_)
   let a2 : St := a1.p [(1, (vI (IntKind.wrap .i64 (p1 - (p0.length : Int))))), (9, (vI (IntKind.wrap .i64 (p1 - (p0.length : Int))))), (8, (vI (p0.length : Int)))]
   refine st 2 a2 (nx (si (so ?_)))
   let a3 : St := a2.p [(11, (vB (decide ((IntKind.wrap .i64 (p1 - (p0.length : Int))) < 0)))), (10, (vI (IntKind.wrap .i64 (p1 - (p0.length : Int)))))]
   refine st 2 a3 (nx ?_)
   refine cd h (fun h => ?_) fun h => ?_
   refine so ?_
   let a4 : St := a3.p [(4, (vI (-1)))]
   refine st 1 a4 (nx (ri (tr ?_)))
   injection h with h; subst h
   exact ret1_step (v := (vI (-1))) (by kernel_rfl) (by kernel_rfl) (by kernel_rfl)
   refine ki (xi (si (so ?_)))
   let a5 : St := a3.p [(5, (vI 0))]
   exact st 1 a5 (nx (bi (loop_go (s' := stwSzSortKeyS_L0 p0 (IntKind.wrap .i64 (p1 - (p0.length : Int))) 0) (wr [] (es (es (es er_nil))) br_nil) (OK_wSzSortKeyS_L0 p0 (IntKind.wrap .i64 (p1 - (p0.length : Int))) 0 _ h))))
 · intro F_wSzSortKeyS_L0 F_wSzSortKey OK_wSzSortKeyS_L0 OK_wSzSortKey p0 x1 x5 r h
   delta acwSzSortKeyS_L0
   refine loop_unroll (si (so ?_))
   let a6 : St := (stwSzSortKeyS_L0 p0 x1 x5).p [(13, (.d (.sl 11 (p0.map cGSortKey)))), (12, (vI x5))]
   refine st 2 a6 (ps (vI (p0.length : Int)) (vop_len (sz := 11) (l := p0) (f := cGSortKey) (by kernel_rfl) (by kernel_rfl)) ?_)
   let a7 : St := a6.p [(15, (vB (decide (x5 < (p0.length : Int))))), (14, (vI (p0.length : Int)))]
   refine st 1 a7 (nx ?_)
   refine cd h (fun h => ?_) fun h => ?_
   refine ki (xi (si (bi (so ?_))))
   let a8 : St := a7.p [(19, (vI x5)), (18, (.d (.sl 11 (p0.map cGSortKey))))]
   refine st 2 a8 (vs (fun (y : GSortKey) => (.rp (oGSortKey y))) h (fun y hy => vop_ia (l := p0) (f := cGSortKey) (g := oGSortKey) (k := .i64) hy cGSortKey_eq (by kernel_rfl) (by kernel_rfl) (by kernel_rfl)) fun y1 h => ?_)
   let a9 : St := a8.p [(22, (vI x1)), (21, (vGSortKey y1)), (20, (.rp (oGSortKey y1)))]
   refine st 2 a9 (cs h (OK_wSzSortKey y1 x1) fun y2 h => ?_)
   let a10 : St := a9.p [(1, (vI y2)), (23, (vI y2))]
   refine st 1 a10 (nx (so ?_))
   let a11 : St := a10.p [(25, (vB (decide (y2 < 0)))), (24, (vI y2))]
   refine st 2 a11 (nx ?_)
   refine cd h (fun h => ?_) fun h => ?_
   refine so ?_
   let a12 : St := a11.p [(4, (vI (-1)))]
   refine st 1 a12 (nx (ri (br (tr (tr (br (tr ?_)))))))
   injection h with h; subst h
   exact ret1_step (v := (vI (-1))) (by kernel_rfl) (by kernel_rfl) (by kernel_rfl)
   refine ki (bn (xi (oi ?_)))
   let a13 : St := a11.p [(5, (vI (IntKind.wrap .i64 (x5 + 1)))), (17, (vI (IntKind.wrap .i64 (x5 + 1)))), (16, (vI x5))]
   exact st 3 a13 (ni (loop_back (s' := stwSzSortKeyS_L0 p0 y2 (IntKind.wrap .i64 (x5 + 1))) (wr [] (es (es (es er_nil))) br_nil) (OK_wSzSortKeyS_L0 p0 y2 (IntKind.wrap .i64 (x5 + 1)) _ h)))
   refine ei (te (te (bh (xi (so ?_)))))
   let a14 : St := a7.p [(4, (vI x1)), (26, (vI x1))]
   refine st 2 a14 (nx (ri ?_))
   injection h with h; subst h
   exact ret1_step (v := (vI x1)) (by kernel_rfl) (by kernel_rfl) (by kernel_rfl)
 · intro F_wSzExpr OK_wSzExpr p0 p1 r h
   refine acalls_of_fn trwSzSortKey (Nat.le_of_ble_eq_true rfl) (by simp) ?_
   show avc Try.prog acwSzSortKey (qwSzSortKey _) ⟨[(0, (vGSortKey p0)), (1, (vI p1))], []⟩
   delta acwSzSortKey
   refine so ?_
   let a0 : St := ⟨[(4, (vI 0)), (2, (.ptr 2 0)), (0, (vGSortKey p0)), (1, (vI p1))], [(2, bGSortKey p0)]⟩
   refine st 2 a0 (nx (so ?_))
   let a1 : St := a0.p [(7, (vI p1)), (6, (vGExpr p0.expr)), (5, (.ptr 2 0))]
   refine st 3 a1 (cs h (OK_wSzExpr p0.expr p1) fun y1 h => ?_)
   let a2 : St := a1.p [(1, (vI y1)), (8, (vI y1))]
   refine st 1 a2 (nx (si (so ?_)))
   let a3 : St := a2.p [(10, (vB (decide (y1 < 0)))), (9, (vI y1))]
   refine st 2 a3 (nx ?_)
   refine cd h (fun h => ?_) fun h => ?_
   refine so ?_
   let a4 : St := a3.p [(4, (vI (-1)))]
   refine st 1 a4 (nx (ri (tr ?_)))
   injection h with h; subst h
   exact ret1_step (v := (vI (-1))) (by kernel_rfl) (by kernel_rfl) (by kernel_rfl)
   refine ki (xi (so ?_))
   let a5 : St := a3.p [(4, (vI y1)), (11, (vI y1))]
   refine st 2 a5 (nx (ri ?_))
   injection h with h; subst h
   exact ret1_step (v := (vI y1)) (by kernel_rfl) (by kernel_rfl) (by kernel_rfl)
 · intro F_wSzSourceS_L0 OK_wSzSourceS_L0 p0 p1 r h
   refine acalls_of_fn trwSzSourceS (Nat.le_of_ble_eq_true rfl) (by simp) ?_
   show avc Try.prog acwSzSourceS (qwSzSourceS _) ⟨[(0, (.d (.sl 3 (p0.map cGSource)))), (1, (vI p1))], []⟩
   delta acwSzSourceS
   refine so ?_
   let a0 : St := ⟨[(4, (vI 0)), (0, (.d (.sl 3 (p0.map cGSource)))), (1, (vI p1))], []⟩
   refine st 1 a0 (nx (so ?_))
   let a1 : St := a0.p [(7, (.d (.sl 3 (p0.map cGSource)))), (6, (vI p1))]
   refine st 2 a1 (ps (vI (p0.length : Int)) (vop_len (sz := 3) (l := p0) (f := cGSource) (by kernel_rfl) (by kernel_rfl)) ?_)
   let a2 : St := a1.p [(1, (vI (IntKind.wrap .i64 (p1 - (p0.length : Int))))), (9, (vI (IntKind.wrap .i64 (p1 - (p0.length : Int))))), (8, (vI (p0.length : Int)))]
   refine st 2 a2 (nx (si (so ?_)))
   let a3 : St := a2.p [(11, (vB (decide ((IntKind.wrap .i64 (p1 - (p0.length : Int))) < 0)))), (10, (vI (IntKind.wrap .i64 (p1 - (p0.length : Int)))))]
   refine st 2 a3 (nx ?_)
   refine cd h (fun h => ?_) fun h => ?_
   refine so ?_
   let a4 : St := a3.p [(4, (vI (-1)))]
   refine st 1 a4 (nx (ri (tr ?_)))
   injection h with h; subst h
   exact ret1_step (v := (vI (-1))) (by kernel_rfl) (by kernel_rfl) (by kernel_rfl)
   refine ki (xi (si (so ?_)))
   let a5 : St := a3.p [(5, (vI 0))]
   exact st 1 a5 (nx (bi (loop_go (s' := stwSzSourceS_L0 p0 (IntKind.wrap .i64 (p1 - (p0.length : Int))) 0) (wr [] (es (es (es er_nil))) br_nil) (OK_wSzSourceS_L0 p0 (IntKind.wrap .i64 (p1 - (p0.length : Int))) 0 _ h))))
 · intro F_wSzSource F_wSzSourceS_L0 OK_wSzSource OK_wSzSourceS_L0 p0 x1 x5 r h
   delta acwSzSourceS_L0
   refine loop_unroll (si (so ?_))
   let a6 : St := (stwSzSourceS_L0 p0 x1 x5).p [(13, (.d (.sl 3 (p0.map cGSource)))), (12, (vI x5))]
   refine st 2 a6 (ps (vI (p0.length : Int)) (vop_len (sz := 3) (l := p0) (f := cGSource) (by kernel_rfl) (by kernel_rfl)) ?_)
   let a7 : St := a6.p [(15, (vB (decide (x5 < (p0.length : Int))))), (14, (vI (p0.length : Int)))]
   refine st 1 a7 (nx ?_)
   refine cd h (fun h => ?_) fun h => ?_
   refine ki (xi (si (bi (so ?_))))
   let a8 : St := a7.p [(19, (vI x5)), (18, (.d (.sl 3 (p0.map cGSource))))]
   refine st 2 a8 (vs (fun (y : GSource) => (.rp (oGSource y))) h (fun y hy => vop_ia (l := p0) (f := cGSource) (g := oGSource) (k := .i64) hy cGSource_eq (by kernel_rfl) (by kernel_rfl) (by kernel_rfl)) fun y1 h => ?_)
   let a9 : St := a8.p [(22, (vI x1)), (21, (vGSource y1)), (20, (.rp (oGSource y1)))]
   refine st 2 a9 (cs h (OK_wSzSource y1 x1) fun y2 h => ?_)
   let a10 : St := a9.p [(1, (vI y2)), (23, (vI y2))]
   refine st 1 a10 (nx (so ?_))
   let a11 : St := a10.p [(25, (vB (decide (y2 < 0)))), (24, (vI y2))]
   refine st 2 a11 (nx ?_)
   refine cd h (fun h => ?_) fun h => ?_
   refine so ?_
   let a12 : St := a11.p [(4, (vI (-1)))]
   refine st 1 a12 (nx (ri (br (tr (tr (br (tr ?_)))))))
   injection h with h; subst h
   exact ret1_step (v := (vI (-1))) (by kernel_rfl) (by kernel_rfl) (by kernel_rfl)
   refine ki (bn (xi (oi ?_)))
   let a13 : St := a11.p [(5, (vI (IntKind.wrap .i64 (x5 + 1)))), (17, (vI (IntKind.wrap .i64 (x5 + 1)))), (16, (vI x5))]
   exact st 3 a13 (ni (loop_back (s' := stwSzSourceS_L0 p0 y2 (IntKind.wrap .i64 (x5 + 1))) (wr [] (es (es (es er_nil))) br_nil) (OK_wSzSourceS_L0 p0 y2 (IntKind.wrap .i64 (x5 + 1)) _ h)))
   refine ei (te (te (bh (xi (so ?_)))))
   let a14 : St := a7.p [(4, (vI x1)), (26, (vI x1))]
   refine st 2 a14 (nx (ri ?_))
   injection h with h; subst h
   exact ret1_step (v := (vI x1)) (by kernel_rfl) (by kernel_rfl) (by kernel_rfl)
 · intro F_wSzItemS_L0 OK_wSzItemS_L0 p0 p1 r h
   refine acalls_of_fn trwSzItemS (Nat.le_of_ble_eq_true rfl) (by simp) ?_
   show avc Try.prog acwSzItemS (qwSzItemS _) ⟨[(0, (.d (.sl 13 (p0.map cGItem)))), (1, (vI p1))], []⟩
   delta acwSzItemS
   refine so ?_
   let a0 : St := ⟨[(4, (vI 0)), (0, (.d (.sl 13 (p0.map cGItem)))), (1, (vI p1))], []⟩
   refine st 1 a0 (nx (so ?_))
   let a1 : St := a0.p [(7, (.d (.sl 13 (p0.map cGItem)))), (6, (vI p1))]
   refine st 2 a1 (ps (vI (p0.length : Int)) (vop_len (sz := 13) (l := p0) (f := cGItem) (by kernel_rfl) (by kernel_rfl)) ?_)
   let a2 : St := a1.p [(1, (vI (IntKind.wrap .i64 (p1 - (p0.length : Int))))), (9, (vI (IntKind.wrap .i64 (p1 - (p0.length : Int))))), (8, (vI (p0.length : Int)))]
   refine st 2 a2 (nx (si (so ?_)))
   let a3 : St := a2.p [(11, (vB (decide ((IntKind.wrap .i64 (p1 - (p0.length : Int))) < 0)))), (10, (vI (IntKind.wrap .i64 (p1 - (p0.length : Int)))))]
   refine st 2 a3 (nx ?_)
   refine cd h (fun h => ?_) fun h => ?_
   refine so ?_
   let a4 : St := a3.p [(4, (vI (-1)))]
   refine st 1 a4 (nx (ri (tr ?_)))
   injection h with h; subst h
   exact ret1_step (v := (vI (-1))) (by kernel_rfl) (by kernel_rfl) (by kernel_rfl)
   refine ki (xi (si (so ?_)))
   let a5 : St := a3.p [(5, (vI 0))]
   exact st 1 a5 (nx (bi (loop_go (s' := stwSzItemS_L0 p0 (IntKind.wrap .i64 (p1 - (p0.length : Int))) 0) (wr [] (es (es (es er_nil))) br_nil) (OK_wSzItemS_L0 p0 (IntKind.wrap .i64 (p1 - (p0.length : Int))) 0 _ h))))
 · intro F_wSzItemS_L0 F_wSzItem OK_wSzItemS_L0 OK_wSzItem p0 x1 x5 r h
   delta acwSzItemS_L0
   refine loop_unroll (si (so ?_))
   let a6 : St := (stwSzItemS_L0 p0 x1 x5).p [(13, (.d (.sl 13 (p0.map cGItem)))), (12, (vI x5))]
   refine st 2 a6 (ps (vI (p0.length : Int)) (vop_len (sz := 13) (l := p0) (f := cGItem) (by kernel_rfl) (by kernel_rfl)) ?_)
   let a7 : St := a6.p [(15, (vB (decide (x5 < (p0.length : Int))))), (14, (vI (p0.length : Int)))]
   refine st 1 a7 (nx ?_)
   refine cd h (fun h => ?_) fun h => ?_
   refine ki (xi (si (bi (so ?_))))
   let a8 : St := a7.p [(19, (vI x5)), (18, (.d (.sl 13 (p0.map cGItem))))]
   refine st 2 a8 (vs (fun (y : GItem) => (.rp (oGItem y))) h (fun y hy => vop_ia (l := p0) (f := cGItem) (g := oGItem) (k := .i64) hy cGItem_eq (by kernel_rfl) (by kernel_rfl) (by kernel_rfl)) fun y1 h => ?_)
   let a9 : St := a8.p [(22, (vI x1)), (21, (vGItem y1)), (20, (.rp (oGItem y1)))]
   refine st 2 a9 (cs h (OK_wSzItem y1 x1) fun y2 h => ?_)
   let a10 : St := a9.p [(1, (vI y2)), (23, (vI y2))]
   refine st 1 a10 (nx (so ?_))
   let a11 : St := a10.p [(25, (vB (decide (y2 < 0)))), (24, (vI y2))]
   refine st 2 a11 (nx ?_)
   refine cd h (fun h => ?_) fun h => ?_
   refine so ?_
   let a12 : St := a11.p [(4, (vI (-1)))]
   refine st 1 a12 (nx (ri (br (tr (tr (br (tr ?_)))))))
   injection h with h; subst h
   exact ret1_step (v := (vI (-1))) (by kernel_rfl) (by kernel_rfl) (by kernel_rfl)
   refine ki (bn (xi (oi ?_)))
   let a13 : St := a11.p [(5, (vI (IntKind.wrap .i64 (x5 + 1)))), (17, (vI (IntKind.wrap .i64 (x5 + 1)))), (16, (vI x5))]
   exact st 3 a13 (ni (loop_back (s' := stwSzItemS_L0 p0 y2 (IntKind.wrap .i64 (x5 + 1))) (wr [] (es (es (es er_nil))) br_nil) (OK_wSzItemS_L0 p0 y2 (IntKind.wrap .i64 (x5 + 1)) _ h)))
   refine ei (te (te (bh (xi (so ?_)))))
   let a14 : St := a7.p [(4, (vI x1)), (26, (vI x1))]
   refine st 2 a14 (nx (ri ?_))
   injection h with h; subst h
   exact ret1_step (v := (vI x1)) (by kernel_rfl) (by kernel_rfl) (by kernel_rfl)
 · intro F_wSzExpr OK_wSzExpr p0 p1 r h
   refine acalls_of_fn trwSzItem (Nat.le_of_ble_eq_true rfl) (by simp) ?_
   show avc Try.prog acwSzItem (qwSzItem _) ⟨[(0, (vGItem p0)), (1, (vI p1))], []⟩
   delta acwSzItem
   refine so ?_
   let a0 : St := ⟨[(4, (vI 0)), (2, (.ptr 2 0)), (0, (vGItem p0)), (1, (vI p1))], [(2, bGItem p0)]⟩
   refine st 2 a0 (nx (so ?_))
   let a1 : St := a0.p [(1, (vI (IntKind.wrap .i64 (p1 - (p0.qual.length : Int))))), (9, (vI (IntKind.wrap .i64 (p1 - (p0.qual.length : Int))))), (8, (vI (p0.qual.length : Int))), (7, (vS p0.qual)), (6, (.ptr 2 1)), (5, (vI p1))]
   refine st 6 a1 (nx (si (so ?_)))
   let a2 : St := a1.p [(11, (vB (decide ((IntKind.wrap .i64 (p1 - (p0.qual.length : Int))) < 0)))), (10, (vI (IntKind.wrap .i64 (p1 - (p0.qual.length : Int)))))]
   refine st 2 a2 (nx ?_)
   refine cd h (fun h => ?_) fun h => ?_
   refine so ?_
   let a3 : St := a2.p [(4, (vI (-1)))]
   refine st 1 a3 (nx (ri (tr ?_)))
   injection h with h; subst h
   exact ret1_step (v := (vI (-1))) (by kernel_rfl) (by kernel_rfl) (by kernel_rfl)
   refine ki (xi (so ?_))
   let a4 : St := a2.p [(14, (vI (IntKind.wrap .i64 (p1 - (p0.qual.length : Int))))), (13, (vGExpr p0.expr)), (12, (.ptr 2 2))]
   refine st 3 a4 (cs h (OK_wSzExpr p0.expr (IntKind.wrap .i64 (p1 - (p0.qual.length : Int)))) fun y1 h => ?_)
   let a5 : St := a4.p [(1, (vI y1)), (15, (vI y1))]
   refine st 1 a5 (nx (si (so ?_)))
   let a6 : St := a5.p [(17, (vB (decide (y1 < 0)))), (16, (vI y1))]
   refine st 2 a6 (nx ?_)
   refine cd h (fun h => ?_) fun h => ?_
   refine so ?_
   let a7 : St := a6.p [(4, (vI (-1)))]
   refine st 1 a7 (nx (ri (tr ?_)))
   injection h with h; subst h
   exact ret1_step (v := (vI (-1))) (by kernel_rfl) (by kernel_rfl) (by kernel_rfl)
   refine ki (xi (so ?_))
   let a8 : St := a6.p [(1, (vI (IntKind.wrap .i64 (y1 - (p0.as_.length : Int))))), (22, (vI (IntKind.wrap .i64 (y1 - (p0.as_.length : Int))))), (21, (vI (p0.as_.length : Int))), (20, (vS p0.as_)), (19, (.ptr 2 12)), (18, (vI y1))]
   refine st 6 a8 (nx (si (so ?_)))
   let a9 : St := a8.p [(24, (vB (decide ((IntKind.wrap .i64 (y1 - (p0.as_.length : Int))) < 0)))), (23, (vI (IntKind.wrap .i64 (y1 - (p0.as_.length : Int)))))]
   refine st 2 a9 (nx ?_)
   refine cd h (fun h => ?_) fun h => ?_
   refine so ?_
   let a10 : St := a9.p [(4, (vI (-1)))]
   refine st 1 a10 (nx (ri (tr ?_)))
   injection h with h; subst h
   exact ret1_step (v := (vI (-1))) (by kernel_rfl) (by kernel_rfl) (by kernel_rfl)
   refine ki (xi (so ?_))
   let a11 : St := a9.p [(4, (vI (IntKind.wrap .i64 (y1 - (p0.as_.length : Int))))), (25, (vI (IntKind.wrap .i64 (y1 - (p0.as_.length : Int)))))]
   refine st 2 a11 (nx (ri ?_))
   injection h with h; subst h
   exact ret1_step (v := (vI (IntKind.wrap .i64 (y1 - (p0.as_.length : Int))))) (by kernel_rfl) (by kernel_rfl) (by kernel_rfl)
theorem OK_wSzSource (p0 : GSource) (p1 : Int) : FOk Try.prog 118 [(vGSource p0), (vI p1)] (fun y => (vI y)) (wSzSource p0 p1) := fun r h => (OKs_wSzSource).1 p0 p1 r h
theorem OK_wSzExprS (p0 : (List GExpr)) (p1 : Int) : FOk Try.prog 56 [(.d (.sl 10 (p0.map cGExpr))), (vI p1)] (fun y => (vI y)) (wSzExprS p0 p1) := fun r h => (OKs_wSzSource).2.1 p0 p1 r h
theorem OK_wSzExprS_L0 (p0 : (List GExpr)) (x1 : Int) (x5 : Int) (r : Int) (h : wSzExprS_L0 p0 x1 x5 = some r) : avc Try.prog acwSzExprS_L0 (qwSzExprS_1 r) (stwSzExprS_L0 p0 x1 x5) := (OKs_wSzSource).2.2.1 p0 x1 x5 r h
theorem OK_wSzExpr (p0 : GExpr) (p1 : Int) : FOk Try.prog 19 [(vGExpr p0), (vI p1)] (fun y => (vI y)) (wSzExpr p0 p1) := fun r h => (OKs_wSzSource).2.2.2.1 p0 p1 r h
theorem OK_wSzQueryS (p0 : (List GQuery)) (p1 : Int) : FOk Try.prog 71 [(.d (.sl 6 (p0.map cGQuery))), (vI p1)] (fun y => (vI y)) (wSzQueryS p0 p1) := fun r h => (OKs_wSzSource).2.2.2.2.1 p0 p1 r h
theorem OK_wSzQueryS_L0 (p0 : (List GQuery)) (x1 : Int) (x5 : Int) (r : Int) (h : wSzQueryS_L0 p0 x1 x5 = some r) : avc Try.prog acwSzQueryS_L0 (qwSzQueryS_1 r) (stwSzQueryS_L0 p0 x1 x5) := (OKs_wSzSource).2.2.2.2.2.1 p0 x1 x5 r h
theorem OK_wSzQuery (p0 : GQuery) (p1 : Int) : FOk Try.prog 14 [(vGQuery p0), (vI p1)] (fun y => (vI y)) (wSzQuery p0 p1) := fun r h => (OKs_wSzSource).2.2.2.2.2.2.1 p0 p1 r h
theorem OK_wSzSortKeyS (p0 : (List GSortKey)) (p1 : Int) : FOk Try.prog 57 [(.d (.sl 11 (p0.map cGSortKey))), (vI p1)] (fun y => (vI y)) (wSzSortKeyS p0 p1) := fun r h => (OKs_wSzSource).2.2.2.2.2.2.2.1 p0 p1 r h
theorem OK_wSzSortKeyS_L0 (p0 : (List GSortKey)) (x1 : Int) (x5 : Int) (r : Int) (h : wSzSortKeyS_L0 p0 x1 x5 = some r) : avc Try.prog acwSzSortKeyS_L0 (qwSzSortKeyS_1 r) (stwSzSortKeyS_L0 p0 x1 x5) := (OKs_wSzSource).2.2.2.2.2.2.2.2.1 p0 x1 x5 r h
theorem OK_wSzSortKey (p0 : GSortKey) (p1 : Int) : FOk Try.prog 119 [(vGSortKey p0), (vI p1)] (fun y => (vI y)) (wSzSortKey p0 p1) := fun r h => (OKs_wSzSource).2.2.2.2.2.2.2.2.2.1 p0 p1 r h
theorem OK_wSzSourceS (p0 : (List GSource)) (p1 : Int) : FOk Try.prog 55 [(.d (.sl 3 (p0.map cGSource))), (vI p1)] (fun y => (vI y)) (wSzSourceS p0 p1) := fun r h => (OKs_wSzSource).2.2.2.2.2.2.2.2.2.2.1 p0 p1 r h
theorem OK_wSzSourceS_L0 (p0 : (List GSource)) (x1 : Int) (x5 : Int) (r : Int) (h : wSzSourceS_L0 p0 x1 x5 = some r) : avc Try.prog acwSzSourceS_L0 (qwSzSourceS_1 r) (stwSzSourceS_L0 p0 x1 x5) := (OKs_wSzSource).2.2.2.2.2.2.2.2.2.2.2.1 p0 x1 x5 r h
theorem OK_wSzItemS (p0 : (List GItem)) (p1 : Int) : FOk Try.prog 54 [(.d (.sl 13 (p0.map cGItem))), (vI p1)] (fun y => (vI y)) (wSzItemS p0 p1) := fun r h => (OKs_wSzSource).2.2.2.2.2.2.2.2.2.2.2.2.1 p0 p1 r h
theorem OK_wSzItemS_L0 (p0 : (List GItem)) (x1 : Int) (x5 : Int) (r : Int) (h : wSzItemS_L0 p0 x1 x5 = some r) : avc Try.prog acwSzItemS_L0 (qwSzItemS_1 r) (stwSzItemS_L0 p0 x1 x5) := (OKs_wSzSource).2.2.2.2.2.2.2.2.2.2.2.2.2.1 p0 x1 x5 r h
theorem OK_wSzItem (p0 : GItem) (p1 : Int) : FOk Try.prog 117 [(vGItem p0), (vI p1)] (fun y => (vI y)) (wSzItem p0 p1) := fun r h => (OKs_wSzSource).2.2.2.2.2.2.2.2.2.2.2.2.2.2 p0 p1 r h
theorem OK_wToValue (p0 : GValue) : FOk Try.prog 73 [(vGValue p0)] (fun y => (vGValue y)) (wToValue p0) := by
 intro r h
 rw [wToValue] at h
 refine acalls_of_fn trwToValue (Nat.le_of_ble_eq_true rfl) (by simp) ?_
 show avc Try.prog acwToValue (qwToValue _) ⟨[(0, (vGValue p0))], []⟩
 delta acwToValue
 refine so ?_
 let a0 : St := ⟨[(2, (.ptr 2 0)), (1, (.ptr 1 0)), (0, (vGValue p0))], [(2, [(vI 0), (vI 0), (vS [])]), (1, bGValue p0)]⟩
 refine st 2 a0 (nx (so ?_))
 let a1 : St := ⟨(3, (.ptr 3 0)) :: a0.env, [(3, [(vI 0), (vI 0), (vS [])]), (2, [(vI 0), (vI 0), (vS [])]), (1, bGValue p0)]⟩
 refine st 1 a1 (nx (so ?_))
 let a2 : St := ⟨(6, (.ptr 3 0)) :: (5, (vI p0.kind)) :: (4, (.ptr 1 0)) :: a1.env, [(3, [(vI p0.kind), (vI 0), (vS [])]), (2, [(vI 0), (vI 0), (vS [])]), (1, bGValue p0)]⟩
 refine st 4 a2 (nx (so ?_))
 let a3 : St := ⟨(9, (.ptr 3 1)) :: (8, (vI p0.num)) :: (7, (.ptr 1 1)) :: a2.env, [(3, [(vI p0.kind), (vI p0.num), (vS [])]), (2, [(vI 0), (vI 0), (vS [])]), (1, bGValue p0)]⟩
 refine st 4 a3 (nx (so ?_))
 let a4 : St := ⟨(12, (.ptr 3 2)) :: (11, (vS p0.text)) :: (10, (.ptr 1 2)) :: a3.env, [(3, [(vI p0.kind), (vI p0.num), (vS p0.text)]), (2, [(vI 0), (vI 0), (vS [])]), (1, bGValue p0)]⟩
 refine st 4 a4 (nx (so ?_))
 let a5 : St := ⟨(13, (vGValue p0)) :: a4.env, [(3, [(vI p0.kind), (vI p0.num), (vS p0.text)]), (2, bGValue p0), (1, bGValue p0)]⟩
 refine st 2 a5 (nx (ri ?_))
 injection h with h; subst h
 exact ret1_step (v := (vGValue p0)) (by kernel_rfl) (by kernel_rfl) (by kernel_rfl)
theorem OKs_wToSource : (∀ (p0 : GSource) (r : GSource), wToSource p0 = some r → ACalls Try.prog 121 [(vGSource p0)] [] fun x _ => x = (fun y => (vGSource y)) r) ∧ (∀ (p0 : (List GExpr)) (r : (List GExpr)), wToExprS p0 = some r → ACalls Try.prog 63 [(.d (.sl 10 (p0.map cGExpr)))] [] fun x _ => x = (fun y => (.d (.sl 10 (y.map cGExpr)))) r) ∧ (∀ (p0 : (List GExpr)) (x4 : Int) (b7_0 : (List GExpr)) (r : (List GExpr)), wToExprS_L0 p0 x4 b7_0 = some r → avc Try.prog acwToExprS_L0 (qwToExprS_1 r) (stwToExprS_L0 p0 x4 b7_0)) ∧ (∀ (p0 : GExpr) (r : GExpr), wToExpr p0 = some r → ACalls Try.prog 21 [(vGExpr p0)] [] fun x _ => x = (fun y => (vGExpr y)) r) ∧ (∀ (p0 : (List GQuery)) (r : (List GQuery)), wToQueryS p0 = some r → ACalls Try.prog 74 [(.d (.sl 6 (p0.map cGQuery)))] [] fun x _ => x = (fun y => (.d (.sl 6 (y.map cGQuery)))) r) ∧ (∀ (p0 : (List GQuery)) (x4 : Int) (b7_0 : (List GQuery)) (r : (List GQuery)), wToQueryS_L0 p0 x4 b7_0 = some r → avc Try.prog acwToQueryS_L0 (qwToQueryS_1 r) (stwToQueryS_L0 p0 x4 b7_0)) ∧ (∀ (p0 : GQuery) (r : GQuery), wToQuery p0 = some r → ACalls Try.prog 16 [(vGQuery p0)] [] fun x _ => x = (fun y => (vGQuery y)) r) ∧ (∀ (p0 : (List GSortKey)) (r : (List GSortKey)), wToSortKeyS p0 = some r → ACalls Try.prog 64 [(.d (.sl 11 (p0.map cGSortKey)))] [] fun x _ => x = (fun y => (.d (.sl 11 (y.map cGSortKey)))) r) ∧ (∀ (p0 : (List GSortKey)) (x4 : Int) (b7_0 : (List GSortKey)) (r : (List GSortKey)), wToSortKeyS_L0 p0 x4 b7_0 = some r → avc Try.prog acwToSortKeyS_L0 (qwToSortKeyS_1 r) (stwToSortKeyS_L0 p0 x4 b7_0)) ∧ (∀ (p0 : GSortKey) (r : GSortKey), wToSortKey p0 = some r → ACalls Try.prog 122 [(vGSortKey p0)] [] fun x _ => x = (fun y => (vGSortKey y)) r) ∧ (∀ (p0 : (List GSource)) (r : (List GSource)), wToSourceS p0 = some r → ACalls Try.prog 62 [(.d (.sl 3 (p0.map cGSource)))] [] fun x _ => x = (fun y => (.d (.sl 3 (y.map cGSource)))) r) ∧ (∀ (p0 : (List GSource)) (x4 : Int) (b7_0 : (List GSource)) (r : (List GSource)), wToSourceS_L0 p0 x4 b7_0 = some r → avc Try.prog acwToSourceS_L0 (qwToSourceS_1 r) (stwToSourceS_L0 p0 x4 b7_0)) ∧ (∀ (p0 : (List GItem)) (r : (List GItem)), wToItemS p0 = some r → ACalls Try.prog 61 [(.d (.sl 13 (p0.map cGItem)))] [] fun x _ => x = (fun y => (.d (.sl 13 (y.map cGItem)))) r) ∧ (∀ (p0 : (List GItem)) (x4 : Int) (b7_0 : (List GItem)) (r : (List GItem)), wToItemS_L0 p0 x4 b7_0 = some r → avc Try.prog acwToItemS_L0 (qwToItemS_1 r) (stwToItemS_L0 p0 x4 b7_0)) ∧ (∀ (p0 : GItem) (r : GItem), wToItem p0 = some r → ACalls Try.prog 120 [(vGItem p0)] [] fun x _ => x = (fun y => (vGItem y)) r) := by
 refine wToSource.mutual_partial_correctness (fun p0 r => ACalls Try.prog 121 [(vGSource p0)] [] fun x _ => x = (fun y => (vGSource y)) r) (fun p0 r => ACalls Try.prog 63 [(.d (.sl 10 (p0.map cGExpr)))] [] fun x _ => x = (fun y => (.d (.sl 10 (y.map cGExpr)))) r) (fun p0 x4 b7_0 r => avc Try.prog acwToExprS_L0 (qwToExprS_1 r) (stwToExprS_L0 p0 x4 b7_0)) (fun p0 r => ACalls Try.prog 21 [(vGExpr p0)] [] fun x _ => x = (fun y => (vGExpr y)) r) (fun p0 r => ACalls Try.prog 74 [(.d (.sl 6 (p0.map cGQuery)))] [] fun x _ => x = (fun y => (.d (.sl 6 (y.map cGQuery)))) r) (fun p0 x4 b7_0 r => avc Try.prog acwToQueryS_L0 (qwToQueryS_1 r) (stwToQueryS_L0 p0 x4 b7_0)) (fun p0 r => ACalls Try.prog 16 [(vGQuery p0)] [] fun x _ => x = (fun y => (vGQuery y)) r) (fun p0 r => ACalls Try.prog 64 [(.d (.sl 11 (p0.map cGSortKey)))] [] fun x _ => x = (fun y => (.d (.sl 11 (y.map cGSortKey)))) r) (fun p0 x4 b7_0 r => avc Try.prog acwToSortKeyS_L0 (qwToSortKeyS_1 r) (stwToSortKeyS_L0 p0 x4 b7_0)) (fun p0 r => ACalls Try.prog 122 [(vGSortKey p0)] [] fun x _ => x = (fun y => (vGSortKey y)) r) (fun p0 r => ACalls Try.prog 62 [(.d (.sl 3 (p0.map cGSource)))] [] fun x _ => x = (fun y => (.d (.sl 3 (y.map cGSource)))) r) (fun p0 x4 b7_0 r => avc Try.prog acwToSourceS_L0 (qwToSourceS_1 r) (stwToSourceS_L0 p0 x4 b7_0)) (fun p0 r => ACalls Try.prog 61 [(.d (.sl 13 (p0.map cGItem)))] [] fun x _ => x = (fun y => (.d (.sl 13 (y.map cGItem)))) r) (fun p0 x4 b7_0 r => avc Try.prog acwToItemS_L0 (qwToItemS_1 r) (stwToItemS_L0 p0 x4 b7_0)) (fun p0 r => ACalls Try.prog 120 [(vGItem p0)] [] fun x _ => x = (fun y => (vGItem y)) r) ?_ ?_ ?_ ?_ ?_ ?_ ?_ ?_ ?_ ?_ ?_ ?_ ?_ ?_ ?_
 · intro F_wToExprS OK_wToExprS p0 r h
   refine acalls_of_fn trwToSource (Nat.le_of_ble_eq_true rfl) (by simp) ?_
   show avc Try.prog acwToSource (qwToSource _) ⟨[(0, (vGSource p0))], []⟩
   delta acwToSource
   refine so ?_
   let a0 : St := ⟨[(2, (.ptr 2 0)), (1, (.ptr 1 0)), (0, (vGSource p0))], [(2, [(vS []), (vS []), (.nil 10)]), (1, bGSource p0)]⟩
   refine st 2 a0 (nx (so ?_))
   let a1 : St := ⟨(3, (.ptr 3 0)) :: a0.env, [(3, [(vS []), (vS []), (.nil 10)]), (2, [(vS []), (vS []), (.nil 10)]), (1, bGSource p0)]⟩
   refine st 1 a1 (nx (so ?_))
   let a2 : St := ⟨(6, (.ptr 3 0)) :: (5, (vS p0.table)) :: (4, (.ptr 1 0)) :: a1.env, [(3, [(vS p0.table), (vS []), (.nil 10)]), (2, [(vS []), (vS []), (.nil 10)]), (1, bGSource p0)]⟩
   refine st 4 a2 (nx (so ?_))
   let a3 : St := ⟨(9, (.ptr 3 1)) :: (8, (vS p0.as_)) :: (7, (.ptr 1 1)) :: a2.env, [(3, [(vS p0.table), (vS p0.as_), (.nil 10)]), (2, [(vS []), (vS []), (.nil 10)]), (1, bGSource p0)]⟩
   refine st 4 a3 (nx (so ?_))
   let a4 : St := a3.p [(11, (.d (.sl 10 (p0.on_.map cGExpr)))), (10, (.ptr 1 2))]
   refine st 2 a4 (cs h (OK_wToExprS p0.on_) fun y1 h => ?_)
   let a5 : St := ⟨(13, (.ptr 3 2)) :: (12, (.d (.sl 10 (y1.map cGExpr)))) :: a4.env, [(3, [(vS p0.table), (vS p0.as_), (.d (.sl 10 (y1.map cGExpr)))]), (2, [(vS []), (vS []), (.nil 10)]), (1, bGSource p0)]⟩
   refine st 2 a5 (nx (so ?_))
   let a6 : St := ⟨(14, (vGSource (GSource.mk p0.table p0.as_ y1))) :: a5.env, [(3, [(vS p0.table), (vS p0.as_), (.d (.sl 10 (y1.map cGExpr)))]), (2, bGSource (GSource.mk p0.table p0.as_ y1)), (1, bGSource p0)]⟩
   refine st 2 a6 (nx (ri ?_))
   injection h with h; subst h
   exact ret1_step (v := (vGSource (GSource.mk p0.table p0.as_ y1))) (by kernel_rfl) (by kernel_rfl) (by kernel_rfl)
 · intro F_wToExprS_L0 OK_wToExprS_L0 p0 r h
   refine acalls_of_fn trwToExprS (Nat.le_of_ble_eq_true rfl) (by simp) ?_
   show avc Try.prog acwToExprS (qwToExprS _) ⟨[(0, (.d (.sl 10 (p0.map cGExpr))))], []⟩
   delta acwToExprS
   refine so ?_
   let a0 : St := ⟨[(2, (.nil 10)), (0, (.d (.sl 10 (p0.map cGExpr))))], []⟩
   refine st 1 a0 (nx (so ?_))
   let a1 : St := a0.p [(5, (.d (.sl 10 (p0.map cGExpr))))]
   refine st 1 a1 (ps (vI (p0.length : Int)) (vop_len (sz := 10) (l := p0) (f := cGExpr) (by kernel_rfl) (by kernel_rfl)) ?_)
   refine mks_step (k := .i64) (k' := .i64) (z := ((GExpr.mk 0 0 false (GValue.mk 0 0 []) [] [] ([] : List GExpr) ([] : List GQuery)) : GExpr)) (f := cGExpr) (S' := fun y => ⟨(7, (.msl 7 10 0 y.length y.length)) :: (6, (vI (p0.length : Int))) :: a1.env, [(7, rowsV (y.map cGExpr))]⟩) h (by kernel_rfl) (by kernel_rfl) (by kernel_rfl) (by kernel_rfl) (by kernel_rfl) (fun y => by kernel_rfl) ?_
   clear h; intro y1 h
   let a2 : St := ⟨(3, (.msl 7 10 0 y1.length y1.length)) :: (7, (.msl 7 10 0 y1.length y1.length)) :: (6, (vI (p0.length : Int))) :: a1.env, [(7, rowsV (y1.map cGExpr))]⟩
   refine st 1 a2 (nx (si (so ?_)))
   let a3 : St := a2.p [(4, (vI 0))]
   exact st 1 a3 (nx (bi (loop_go (s' := stwToExprS_L0 p0 0 y1) (wr [] (es (es (es er_nil))) (br_rows (by kernel_rfl) br_nil)) (OK_wToExprS_L0 p0 0 y1 _ h))))
 · intro F_wToExprS_L0 F_wToExpr OK_wToExprS_L0 OK_wToExpr p0 x4 b7_0 r h
   delta acwToExprS_L0
   refine loop_unroll (si (so ?_))
   let a4 : St := (stwToExprS_L0 p0 x4 b7_0).p [(9, (.d (.sl 10 (p0.map cGExpr)))), (8, (vI x4))]
   refine st 2 a4 (ps (vI (p0.length : Int)) (vop_len (sz := 10) (l := p0) (f := cGExpr) (by kernel_rfl) (by kernel_rfl)) ?_)
   let a5 : St := a4.p [(11, (vB (decide (x4 < (p0.length : Int))))), (10, (vI (p0.length : Int)))]
   refine st 1 a5 (nx ?_)
   refine cd h (fun h => ?_) fun h => ?_
   refine ki (xi (si (bi (oi ?_))))
   let a6 : St := a5.p [(17, (vI x4)), (16, (.d (.sl 10 (p0.map cGExpr)))), (15, (vI x4)), (14, (.msl 7 10 0 b7_0.length b7_0.length))]
   refine st 4 a6 (vs (fun (y : GExpr) => (.rp (oGExpr y))) h (fun y hy => vop_ia (l := p0) (f := cGExpr) (g := oGExpr) (k := .i64) hy cGExpr_eq (by kernel_rfl) (by kernel_rfl) (by kernel_rfl)) fun y2 h => ?_)
   let a7 : St := a6.p [(19, (vGExpr y2)), (18, (.rp (oGExpr y2)))]
   refine st 1 a7 (cs h (OK_wToExpr y2) fun y3 h => (vs (fun (y : GExpr) => (.ptr 7 ((0 + (x4).toNat) * 10))) h (fun y hy => vop_iaE (l := b7_0) (k := .i64) hy (by kernel_rfl) (by kernel_rfl) (by kernel_rfl)) fun y4 h => ?_))
   refine sti_step (b := 7) (i := x4) (l := b7_0) (v := y3) (f := cGExpr) (u := (vGExpr y3)) (T := fun y m => ⟨[(21, (.ptr 7 ((0 + (x4).toNat) * 10))), (20, (vGExpr y3)), (19, (vGExpr y2)), (18, (.rp (oGExpr y2))), (17, (vI x4)), (16, (.d (.sl 10 (p0.map cGExpr)))), (15, (vI x4)), (14, (.msl 7 10 0 m m)), (11, (vB (decide (x4 < (p0.length : Int))))), (10, (vI (p0.length : Int))), (9, (.d (.sl 10 (p0.map cGExpr)))), (8, (vI x4)), (0, (.d (.sl 10 (p0.map cGExpr)))), (3, (.msl 7 10 0 m m)), (4, (vI x4))], [(7, rowsV (y.map cGExpr))]⟩) h (by kernel_rfl) (by kernel_rfl) (by kernel_rfl) (congrArg (List.map V.d) (cGExpr_eq y3).symm) (fun y => (congrArg List.length (cGExpr_eq y)).trans rfl) (by kernel_rfl) (fun y => by kernel_rfl) ?_
   clear h; intro y5 h
   refine ni (bn (xi (oi ?_)))
   let a8 : St := ⟨[(4, (vI (IntKind.wrap .i64 (x4 + 1)))), (13, (vI (IntKind.wrap .i64 (x4 + 1)))), (12, (vI x4)), (21, (.ptr 7 ((0 + (x4).toNat) * 10))), (20, (vGExpr y3)), (19, (vGExpr y2)), (18, (.rp (oGExpr y2))), (17, (vI x4)), (16, (.d (.sl 10 (p0.map cGExpr)))), (15, (vI x4)), (14, (.msl 7 10 0 y5.length y5.length)), (11, (vB (decide (x4 < (p0.length : Int))))), (10, (vI (p0.length : Int))), (9, (.d (.sl 10 (p0.map cGExpr)))), (8, (vI x4)), (0, (.d (.sl 10 (p0.map cGExpr)))), (3, (.msl 7 10 0 y5.length y5.length)), (4, (vI x4))], [(7, rowsV (y5.map cGExpr))]⟩
   exact st 3 a8 (ni (loop_back (s' := stwToExprS_L0 p0 (IntKind.wrap .i64 (x4 + 1)) y5) (wr [] (es (es (es er_nil))) (br_rows (by kernel_rfl) br_nil)) (OK_wToExprS_L0 p0 (IntKind.wrap .i64 (x4 + 1)) y5 _ h)))
   refine ei (te (te (bh (xi (so ?_)))))
   let a9 : St := a5.p [(2, (.msl 7 10 0 b7_0.length b7_0.length)), (22, (.msl 7 10 0 b7_0.length b7_0.length))]
   refine st 2 a9 (nx (ret_frz (n := 7) (sz := 10) (l := b7_0) (f := cGExpr) (s' := ⟨[(2, (.d (.sl 10 (b7_0.map cGExpr))))], []⟩) (by decide) (fun y => (congrArg List.length (cGExpr_eq y)).trans rfl) (by kernel_rfl) (⟨.inr ⟨b7_0.length, b7_0.length, by kernel_rfl, lms b7_0 _, by kernel_rfl⟩, trivial⟩) (trivial) (ri ?_)))
   injection h with h; subst h
   exact ret1_step (v := (.d (.sl 10 (b7_0.map cGExpr)))) (by kernel_rfl) (by kernel_rfl) (by kernel_rfl)
 · intro F_wToExprS F_wToQueryS OK_wToExprS OK_wToQueryS p0 r h
   refine acalls_of_fn trwToExpr (Nat.le_of_ble_eq_true rfl) (by simp) ?_
   show avc Try.prog acwToExpr (qwToExpr _) ⟨[(0, (vGExpr p0))], []⟩
   delta acwToExpr
   refine so ?_
   let a0 : St := ⟨[(2, (.ptr 2 0)), (1, (.ptr 1 0)), (0, (vGExpr p0))], [(2, [(vI 0), (vI 0), (vB false), (vI 0), (vI 0), (vS []), (vS []), (vS []), (.nil 10), (.nil 6)]), (1, bGExpr p0)]⟩
   refine st 2 a0 (nx (so ?_))
   let a1 : St := ⟨(3, (.ptr 3 0)) :: a0.env, [(3, [(vI 0), (vI 0), (vB false), (vI 0), (vI 0), (vS []), (vS []), (vS []), (.nil 10), (.nil 6)]), (2, [(vI 0), (vI 0), (vB false), (vI 0), (vI 0), (vS []), (vS []), (vS []), (.nil 10), (.nil 6)]), (1, bGExpr p0)]⟩
   refine st 1 a1 (nx (so ?_))
   let a2 : St := ⟨(6, (.ptr 3 0)) :: (5, (vI p0.kind)) :: (4, (.ptr 1 0)) :: a1.env, [(3, [(vI p0.kind), (vI 0), (vB false), (vI 0), (vI 0), (vS []), (vS []), (vS []), (.nil 10), (.nil 6)]), (2, [(vI 0), (vI 0), (vB false), (vI 0), (vI 0), (vS []), (vS []), (vS []), (.nil 10), (.nil 6)]), (1, bGExpr p0)]⟩
   refine st 4 a2 (nx (so ?_))
   let a3 : St := ⟨(9, (.ptr 3 1)) :: (8, (vI p0.op)) :: (7, (.ptr 1 1)) :: a2.env, [(3, [(vI p0.kind), (vI p0.op), (vB false), (vI 0), (vI 0), (vS []), (vS []), (vS []), (.nil 10), (.nil 6)]), (2, [(vI 0), (vI 0), (vB false), (vI 0), (vI 0), (vS []), (vS []), (vS []), (.nil 10), (.nil 6)]), (1, bGExpr p0)]⟩
   refine st 4 a3 (nx (so ?_))
   let a4 : St := ⟨(12, (.ptr 3 2)) :: (11, (vB p0.not_)) :: (10, (.ptr 1 2)) :: a3.env, [(3, [(vI p0.kind), (vI p0.op), (vB p0.not_), (vI 0), (vI 0), (vS []), (vS []), (vS []), (.nil 10), (.nil 6)]), (2, [(vI 0), (vI 0), (vB false), (vI 0), (vI 0), (vS []), (vS []), (vS []), (.nil 10), (.nil 6)]), (1, bGExpr p0)]⟩
   refine st 4 a4 (nx (so ?_))
   let a5 : St := a4.p [(14, (vGValue p0.value)), (13, (.ptr 1 3))]
   refine st 2 a5 (cs h (OK_wToValue p0.value) fun y1 h => ?_)
   let a6 : St := ⟨(16, (.ptr 3 3)) :: (15, (vGValue y1)) :: a5.env, [(3, [(vI p0.kind), (vI p0.op), (vB p0.not_), (vI y1.kind), (vI y1.num), (vS y1.text), (vS []), (vS []), (.nil 10), (.nil 6)]), (2, [(vI 0), (vI 0), (vB false), (vI 0), (vI 0), (vS []), (vS []), (vS []), (.nil 10), (.nil 6)]), (1, bGExpr p0)]⟩
   refine st 2 a6 (nx (so ?_))
   let a7 : St := ⟨(19, (.ptr 3 6)) :: (18, (vS p0.qual)) :: (17, (.ptr 1 6)) :: a6.env, [(3, [(vI p0.kind), (vI p0.op), (vB p0.not_), (vI y1.kind), (vI y1.num), (vS y1.text), (vS p0.qual), (vS []), (.nil 10), (.nil 6)]), (2, [(vI 0), (vI 0), (vB false), (vI 0), (vI 0), (vS []), (vS []), (vS []), (.nil 10), (.nil 6)]), (1, bGExpr p0)]⟩
   refine st 4 a7 (nx (so ?_))
   let a8 : St := ⟨(22, (.ptr 3 7)) :: (21, (vS p0.name)) :: (20, (.ptr 1 7)) :: a7.env, [(3, [(vI p0.kind), (vI p0.op), (vB p0.not_), (vI y1.kind), (vI y1.num), (vS y1.text), (vS p0.qual), (vS p0.name), (.nil 10), (.nil 6)]), (2, [(vI 0), (vI 0), (vB false), (vI 0), (vI 0), (vS []), (vS []), (vS []), (.nil 10), (.nil 6)]), (1, bGExpr p0)]⟩
   refine st 4 a8 (nx (so ?_))
   let a9 : St := a8.p [(24, (.d (.sl 10 (p0.kids.map cGExpr)))), (23, (.ptr 1 8))]
   refine st 2 a9 (cs h (OK_wToExprS p0.kids) fun y2 h => ?_)
   let a10 : St := ⟨(26, (.ptr 3 8)) :: (25, (.d (.sl 10 (y2.map cGExpr)))) :: a9.env, [(3, [(vI p0.kind), (vI p0.op), (vB p0.not_), (vI y1.kind), (vI y1.num), (vS y1.text), (vS p0.qual), (vS p0.name), (.d (.sl 10 (y2.map cGExpr))), (.nil 6)]), (2, [(vI 0), (vI 0), (vB false), (vI 0), (vI 0), (vS []), (vS []), (vS []), (.nil 10), (.nil 6)]), (1, bGExpr p0)]⟩
   refine st 2 a10 (nx (so ?_))
   let a11 : St := a10.p [(28, (.d (.sl 6 (p0.sub.map cGQuery)))), (27, (.ptr 1 9))]
   refine st 2 a11 (cs h (OK_wToQueryS p0.sub) fun y3 h => ?_)
   let a12 : St := ⟨(30, (.ptr 3 9)) :: (29, (.d (.sl 6 (y3.map cGQuery)))) :: a11.env, [(3, [(vI p0.kind), (vI p0.op), (vB p0.not_), (vI y1.kind), (vI y1.num), (vS y1.text), (vS p0.qual), (vS p0.name), (.d (.sl 10 (y2.map cGExpr))), (.d (.sl 6 (y3.map cGQuery)))]), (2, [(vI 0), (vI 0), (vB false), (vI 0), (vI 0), (vS []), (vS []), (vS []), (.nil 10), (.nil 6)]), (1, bGExpr p0)]⟩
   refine st 2 a12 (nx (so ?_))
   let a13 : St := ⟨(31, (vGExpr (GExpr.mk p0.kind p0.op p0.not_ y1 p0.qual p0.name y2 y3))) :: a12.env, [(3, [(vI p0.kind), (vI p0.op), (vB p0.not_), (vI y1.kind), (vI y1.num), (vS y1.text), (vS p0.qual), (vS p0.name), (.d (.sl 10 (y2.map cGExpr))), (.d (.sl 6 (y3.map cGQuery)))]), (2, bGExpr (GExpr.mk p0.kind p0.op p0.not_ y1 p0.qual p0.name y2 y3)), (1, bGExpr p0)]⟩
   refine st 2 a13 (nx (ri ?_))
   injection h with h; subst h
   exact ret1_step (v := (vGExpr (GExpr.mk p0.kind p0.op p0.not_ y1 p0.qual p0.name y2 y3))) (by kernel_rfl) (by kernel_rfl) (by kernel_rfl)
 · intro F_wToQueryS_L0 OK_wToQueryS_L0 p0 r h
   refine acalls_of_fn trwToQueryS (Nat.le_of_ble_eq_true rfl) (by simp) ?_
   show avc Try.prog acwToQueryS (qwToQueryS _) ⟨[(0, (.d (.sl 6 (p0.map cGQuery))))], []⟩
   delta acwToQueryS
   refine so ?_
   let a0 : St := ⟨[(2, (.nil 6)), (0, (.d (.sl 6 (p0.map cGQuery))))], []⟩
   refine st 1 a0 (nx (so ?_))
   let a1 : St := a0.p [(5, (.d (.sl 6 (p0.map cGQuery))))]
   refine st 1 a1 (ps (vI (p0.length : Int)) (vop_len (sz := 6) (l := p0) (f := cGQuery) (by kernel_rfl) (by kernel_rfl)) ?_)
   refine mks_step (k := .i64) (k' := .i64) (z := ((GQuery.mk false ([] : List GItem) ([] : List GSource) ([] : List GExpr) ([] : List GSortKey) 0) : GQuery)) (f := cGQuery) (S' := fun y => ⟨(7, (.msl 7 6 0 y.length y.length)) :: (6, (vI (p0.length : Int))) :: a1.env, [(7, rowsV (y.map cGQuery))]⟩) h (by kernel_rfl) (by kernel_rfl) (by kernel_rfl) (by kernel_rfl) (by kernel_rfl) (fun y => by kernel_rfl) ?_
   clear h; intro y1 h
   let a2 : St := ⟨(3, (.msl 7 6 0 y1.length y1.length)) :: (7, (.msl 7 6 0 y1.length y1.length)) :: (6, (vI (p0.length : Int))) :: a1.env, [(7, rowsV (y1.map cGQuery))]⟩
   refine st 1 a2 (nx (si (so ?_)))
   let a3 : St := a2.p [(4, (vI 0))]
   exact st 1 a3 (nx (bi (loop_go (s' := stwToQueryS_L0 p0 0 y1) (wr [] (es (es (es er_nil))) (br_rows (by kernel_rfl) br_nil)) (OK_wToQueryS_L0 p0 0 y1 _ h))))
 · intro F_wToQueryS_L0 F_wToQuery OK_wToQueryS_L0 OK_wToQuery p0 x4 b7_0 r h
   delta acwToQueryS_L0
   refine loop_unroll (si (so ?_))
   let a4 : St := (stwToQueryS_L0 p0 x4 b7_0).p [(9, (.d (.sl 6 (p0.map cGQuery)))), (8, (vI x4))]
   refine st 2 a4 (ps (vI (p0.length : Int)) (vop_len (sz := 6) (l := p0) (f := cGQuery) (by kernel_rfl) (by kernel_rfl)) ?_)
   let a5 : St := a4.p [(11, (vB (decide (x4 < (p0.length : Int))))), (10, (vI (p0.length : Int)))]
   refine st 1 a5 (nx ?_)
   refine cd h (fun h => ?_) fun h => ?_
   refine ki (xi (si (bi (oi ?_))))
   let a6 : St := a5.p [(17, (vI x4)), (16, (.d (.sl 6 (p0.map cGQuery)))), (15, (vI x4)), (14, (.msl 7 6 0 b7_0.length b7_0.length))]
   refine st 4 a6 (vs (fun (y : GQuery) => (.rp (oGQuery y))) h (fun y hy => vop_ia (l := p0) (f := cGQuery) (g := oGQuery) (k := .i64) hy cGQuery_eq (by kernel_rfl) (by kernel_rfl) (by kernel_rfl)) fun y2 h => ?_)
   let a7 : St := a6.p [(19, (vGQuery y2)), (18, (.rp (oGQuery y2)))]
   refine st 1 a7 (cs h (OK_wToQuery y2) fun y3 h => (vs (fun (y : GQuery) => (.ptr 7 ((0 + (x4).toNat) * 6))) h (fun y hy => vop_iaE (l := b7_0) (k := .i64) hy (by kernel_rfl) (by kernel_rfl) (by kernel_rfl)) fun y4 h => ?_))
   refine sti_step (b := 7) (i := x4) (l := b7_0) (v := y3) (f := cGQuery) (u := (vGQuery y3)) (T := fun y m => ⟨[(21, (.ptr 7 ((0 + (x4).toNat) * 6))), (20, (vGQuery y3)), (19, (vGQuery y2)), (18, (.rp (oGQuery y2))), (17, (vI x4)), (16, (.d (.sl 6 (p0.map cGQuery)))), (15, (vI x4)), (14, (.msl 7 6 0 m m)), (11, (vB (decide (x4 < (p0.length : Int))))), (10, (vI (p0.length : Int))), (9, (.d (.sl 6 (p0.map cGQuery)))), (8, (vI x4)), (0, (.d (.sl 6 (p0.map cGQuery)))), (3, (.msl 7 6 0 m m)), (4, (vI x4))], [(7, rowsV (y.map cGQuery))]⟩) h (by kernel_rfl) (by kernel_rfl) (by kernel_rfl) (congrArg (List.map V.d) (cGQuery_eq y3).symm) (fun y => (congrArg List.length (cGQuery_eq y)).trans rfl) (by kernel_rfl) (fun y => by kernel_rfl) ?_
   clear h; intro y5 h
   refine ni (bn (xi (oi ?_)))
   let a8 : St := ⟨[(4, (vI (IntKind.wrap .i64 (x4 + 1)))), (13, (vI (IntKind.wrap .i64 (x4 + 1)))), (12, (vI x4)), (21, (.ptr 7 ((0 + (x4).toNat) * 6))), (20, (vGQuery y3)), (19, (vGQuery y2)), (18, (.rp (oGQuery y2))), (17, (vI x4)), (16, (.d (.sl 6 (p0.map cGQuery)))), (15, (vI x4)), (14, (.msl 7 6 0 y5.length y5.length)), (11, (vB (decide (x4 < (p0.length : Int))))), (10, (vI (p0.length : Int))), (9, (.d (.sl 6 (p0.map cGQuery)))), (8, (vI x4)), (0, (.d (.sl 6 (p0.map cGQuery)))), (3, (.msl 7 6 0 y5.length y5.length)), (4, (vI x4))], [(7, rowsV (y5.map cGQuery))]⟩
   exact st 3 a8 (ni (loop_back (s' := stwToQueryS_L0 p0 (IntKind.wrap .i64 (x4 + 1)) y5) (wr [] (es (es (es er_nil))) (br_rows (by kernel_rfl) br_nil)) (OK_wToQueryS_L0 p0 (IntKind.wrap .i64 (x4 + 1)) y5 _ h)))
   refine ei (te (te (bh (xi (so ?_)))))
   let a9 : St := a5.p [(2, (.msl 7 6 0 b7_0.length b7_0.length)), (22, (.msl 7 6 0 b7_0.length b7_0.length))]
   refine st 2 a9 (nx (ret_frz (n := 7) (sz := 6) (l := b7_0) (f := cGQuery) (s' := ⟨[(2, (.d (.sl 6 (b7_0.map cGQuery))))], []⟩) (by decide) (fun y => (congrArg List.length (cGQuery_eq y)).trans rfl) (by kernel_rfl) (⟨.inr ⟨b7_0.length, b7_0.length, by kernel_rfl, lms b7_0 _, by kernel_rfl⟩, trivial⟩) (trivial) (ri ?_)))
   injection h with h; subst h
   exact ret1_step (v := (.d (.sl 6 (b7_0.map cGQuery)))) (by kernel_rfl) (by kernel_rfl) (by kernel_rfl)
 · intro F_wToExprS F_wToSortKeyS F_wToSourceS F_wToItemS OK_wToExprS OK_wToSortKeyS OK_wToSourceS OK_wToItemS p0 r h
   refine acalls_of_fn trwToQuery (Nat.le_of_ble_eq_true rfl) (by simp) ?_
   show avc Try.prog acwToQuery (qwToQuery _) ⟨[(0, (vGQuery p0))], []⟩
   delta acwToQuery
   refine so ?_
   let a0 : St := ⟨[(2, (.ptr 2 0)), (1, (.ptr 1 0)), (0, (vGQuery p0))], [(2, [(vB false), (.nil 13), (.nil 3), (.nil 10), (.nil 11), (vI 0)]), (1, bGQuery p0)]⟩
   refine st 2 a0 (nx (so ?_))
   let a1 : St := ⟨(3, (.ptr 3 0)) :: a0.env, [(3, [(vB false), (.nil 13), (.nil 3), (.nil 10), (.nil 11), (vI 0)]), (2, [(vB false), (.nil 13), (.nil 3), (.nil 10), (.nil 11), (vI 0)]), (1, bGQuery p0)]⟩
   refine st 1 a1 (nx (so ?_))
   let a2 : St := ⟨(6, (.ptr 3 0)) :: (5, (vB p0.distinct)) :: (4, (.ptr 1 0)) :: a1.env, [(3, [(vB p0.distinct), (.nil 13), (.nil 3), (.nil 10), (.nil 11), (vI 0)]), (2, [(vB false), (.nil 13), (.nil 3), (.nil 10), (.nil 11), (vI 0)]), (1, bGQuery p0)]⟩
   refine st 4 a2 (nx (so ?_))
   let a3 : St := a2.p [(8, (.d (.sl 13 (p0.items.map cGItem)))), (7, (.ptr 1 1))]
   refine st 2 a3 (cs h (OK_wToItemS p0.items) fun y1 h => ?_)
   let a4 : St := ⟨(10, (.ptr 3 1)) :: (9, (.d (.sl 13 (y1.map cGItem)))) :: a3.env, [(3, [(vB p0.distinct), (.d (.sl 13 (y1.map cGItem))), (.nil 3), (.nil 10), (.nil 11), (vI 0)]), (2, [(vB false), (.nil 13), (.nil 3), (.nil 10), (.nil 11), (vI 0)]), (1, bGQuery p0)]⟩
   refine st 2 a4 (nx (so ?_))
   let a5 : St := a4.p [(12, (.d (.sl 3 (p0.from_.map cGSource)))), (11, (.ptr 1 2))]
   refine st 2 a5 (cs h (OK_wToSourceS p0.from_) fun y2 h => ?_)
   let a6 : St := ⟨(14, (.ptr 3 2)) :: (13, (.d (.sl 3 (y2.map cGSource)))) :: a5.env, [(3, [(vB p0.distinct), (.d (.sl 13 (y1.map cGItem))), (.d (.sl 3 (y2.map cGSource))), (.nil 10), (.nil 11), (vI 0)]), (2, [(vB false), (.nil 13), (.nil 3), (.nil 10), (.nil 11), (vI 0)]), (1, bGQuery p0)]⟩
   refine st 2 a6 (nx (so ?_))
   let a7 : St := a6.p [(16, (.d (.sl 10 (p0.where_.map cGExpr)))), (15, (.ptr 1 3))]
   refine st 2 a7 (cs h (OK_wToExprS p0.where_) fun y3 h => ?_)
   let a8 : St := ⟨(18, (.ptr 3 3)) :: (17, (.d (.sl 10 (y3.map cGExpr)))) :: a7.env, [(3, [(vB p0.distinct), (.d (.sl 13 (y1.map cGItem))), (.d (.sl 3 (y2.map cGSource))), (.d (.sl 10 (y3.map cGExpr))), (.nil 11), (vI 0)]), (2, [(vB false), (.nil 13), (.nil 3), (.nil 10), (.nil 11), (vI 0)]), (1, bGQuery p0)]⟩
   refine st 2 a8 (nx (so ?_))
   let a9 : St := a8.p [(20, (.d (.sl 11 (p0.order.map cGSortKey)))), (19, (.ptr 1 4))]
   refine st 2 a9 (cs h (OK_wToSortKeyS p0.order) fun y4 h => ?_)
   let a10 : St := ⟨(22, (.ptr 3 4)) :: (21, (.d (.sl 11 (y4.map cGSortKey)))) :: a9.env, [(3, [(vB p0.distinct), (.d (.sl 13 (y1.map cGItem))), (.d (.sl 3 (y2.map cGSource))), (.d (.sl 10 (y3.map cGExpr))), (.d (.sl 11 (y4.map cGSortKey))), (vI 0)]), (2, [(vB false), (.nil 13), (.nil 3), (.nil 10), (.nil 11), (vI 0)]), (1, bGQuery p0)]⟩
   refine st 2 a10 (nx (so ?_))
   let a11 : St := ⟨(25, (.ptr 3 5)) :: (24, (vI p0.limit)) :: (23, (.ptr 1 5)) :: a10.env, [(3, [(vB p0.distinct), (.d (.sl 13 (y1.map cGItem))), (.d (.sl 3 (y2.map cGSource))), (.d (.sl 10 (y3.map cGExpr))), (.d (.sl 11 (y4.map cGSortKey))), (vI p0.limit)]), (2, [(vB false), (.nil 13), (.nil 3), (.nil 10), (.nil 11), (vI 0)]), (1, bGQuery p0)]⟩
   refine st 4 a11 (nx (so ?_))
   let a12 : St := ⟨(26, (vGQuery (GQuery.mk p0.distinct y1 y2 y3 y4 p0.limit))) :: a11.env, [(3, [(vB p0.distinct), (.d (.sl 13 (y1.map cGItem))), (.d (.sl 3 (y2.map cGSource))), (.d (.sl 10 (y3.map cGExpr))), (.d (.sl 11 (y4.map cGSortKey))), (vI p0.limit)]), (2, bGQuery (GQuery.mk p0.distinct y1 y2 y3 y4 p0.limit)), (1, bGQuery p0)]⟩
   refine st 2 a12 (nx (ri ?_))
   injection h with h; subst h
   exact ret1_step (v := (vGQuery (GQuery.mk p0.distinct y1 y2 y3 y4 p0.limit))) (by kernel_rfl) (by kernel_rfl) (by kernel_rfl)
 · intro F_wToSortKeyS_L0 OK_wToSortKeyS_L0 p0 r h
   refine acalls_of_fn trwToSortKeyS (Nat.le_of_ble_eq_true rfl) (by simp) ?_
   show avc Try.prog acwToSortKeyS (qwToSortKeyS _) ⟨[(0, (.d (.sl 11 (p0.map cGSortKey))))], []⟩
   delta acwToSortKeyS
   refine so ?_
   let a0 : St := ⟨[(2, (.nil 11)), (0, (.d (.sl 11 (p0.map cGSortKey))))], []⟩
   refine st 1 a0 (nx (so ?_))
   let a1 : St := a0.p [(5, (.d (.sl 11 (p0.map cGSortKey))))]
   refine st 1 a1 (ps (vI (p0.length : Int)) (vop_len (sz := 11) (l := p0) (f := cGSortKey) (by kernel_rfl) (by kernel_rfl)) ?_)
   refine mks_step (k := .i64) (k' := .i64) (z := ((GSortKey.mk (GExpr.mk 0 0 false (GValue.mk 0 0 []) [] [] ([] : List GExpr) ([] : List GQuery)) false) : GSortKey)) (f := cGSortKey) (S' := fun y => ⟨(7, (.msl 7 11 0 y.length y.length)) :: (6, (vI (p0.length : Int))) :: a1.env, [(7, rowsV (y.map cGSortKey))]⟩) h (by kernel_rfl) (by kernel_rfl) (by kernel_rfl) (by kernel_rfl) (by kernel_rfl) (fun y => by kernel_rfl) ?_
   clear h; intro y1 h
   let a2 : St := ⟨(3, (.msl 7 11 0 y1.length y1.length)) :: (7, (.msl 7 11 0 y1.length y1.length)) :: (6, (vI (p0.length : Int))) :: a1.env, [(7, rowsV (y1.map cGSortKey))]⟩
   refine st 1 a2 (nx (si (so ?_)))
   let a3 : St := a2.p [(4, (vI 0))]
   exact st 1 a3 (nx (bi (loop_go (s' := stwToSortKeyS_L0 p0 0 y1) (wr [] (es (es (es er_nil))) (br_rows (by kernel_rfl) br_nil)) (OK_wToSortKeyS_L0 p0 0 y1 _ h))))
 · intro F_wToSortKeyS_L0 F_wToSortKey OK_wToSortKeyS_L0 OK_wToSortKey p0 x4 b7_0 r h
   delta acwToSortKeyS_L0
   refine loop_unroll (si (so ?_))
   let a4 : St := (stwToSortKeyS_L0 p0 x4 b7_0).p [(9, (.d (.sl 11 (p0.map cGSortKey)))), (8, (vI x4))]
   refine st 2 a4 (ps (vI (p0.length : Int)) (vop_len (sz := 11) (l := p0) (f := cGSortKey) (by kernel_rfl) (by kernel_rfl)) ?_)
   let a5 : St := a4.p [(11, (vB (decide (x4 < (p0.length : Int))))), (10, (vI (p0.length : Int)))]
   refine st 1 a5 (nx ?_)
   refine cd h (fun h => ?_) fun h => ?_
   refine ki (xi (si (bi (oi ?_))))
   let a6 : St := a5.p [(17, (vI x4)), (16, (.d (.sl 11 (p0.map cGSortKey)))), (15, (vI x4)), (14, (.msl 7 11 0 b7_0.length b7_0.length))]
   refine st 4 a6 (vs (fun (y : GSortKey) => (.rp (oGSortKey y))) h (fun y hy => vop_ia (l := p0) (f := cGSortKey) (g := oGSortKey) (k := .i64) hy cGSortKey_eq (by kernel_rfl) (by kernel_rfl) (by kernel_rfl)) fun y2 h => ?_)
   let a7 : St := a6.p [(19, (vGSortKey y2)), (18, (.rp (oGSortKey y2)))]
   refine st 1 a7 (cs h (OK_wToSortKey y2) fun y3 h => (vs (fun (y : GSortKey) => (.ptr 7 ((0 + (x4).toNat) * 11))) h (fun y hy => vop_iaE (l := b7_0) (k := .i64) hy (by kernel_rfl) (by kernel_rfl) (by kernel_rfl)) fun y4 h => ?_))
   refine sti_step (b := 7) (i := x4) (l := b7_0) (v := y3) (f := cGSortKey) (u := (vGSortKey y3)) (T := fun y m => ⟨[(21, (.ptr 7 ((0 + (x4).toNat) * 11))), (20, (vGSortKey y3)), (19, (vGSortKey y2)), (18, (.rp (oGSortKey y2))), (17, (vI x4)), (16, (.d (.sl 11 (p0.map cGSortKey)))), (15, (vI x4)), (14, (.msl 7 11 0 m m)), (11, (vB (decide (x4 < (p0.length : Int))))), (10, (vI (p0.length : Int))), (9, (.d (.sl 11 (p0.map cGSortKey)))), (8, (vI x4)), (0, (.d (.sl 11 (p0.map cGSortKey)))), (3, (.msl 7 11 0 m m)), (4, (vI x4))], [(7, rowsV (y.map cGSortKey))]⟩) h (by kernel_rfl) (by kernel_rfl) (by kernel_rfl) (congrArg (List.map V.d) (cGSortKey_eq y3).symm) (fun y => (congrArg List.length (cGSortKey_eq y)).trans rfl) (by kernel_rfl) (fun y => by kernel_rfl) ?_
   clear h; intro y5 h
   refine ni (bn (xi (oi ?_)))
   let a8 : St := ⟨[(4, (vI (IntKind.wrap .i64 (x4 + 1)))), (13, (vI (IntKind.wrap .i64 (x4 + 1)))), (12, (vI x4)), (21, (.ptr 7 ((0 + (x4).toNat) * 11))), (20, (vGSortKey y3)), (19, (vGSortKey y2)), (18, (.rp (oGSortKey y2))), (17, (vI x4)), (16, (.d (.sl 11 (p0.map cGSortKey)))), (15, (vI x4)), (14, (.msl 7 11 0 y5.length y5.length)), (11, (vB (decide (x4 < (p0.length : Int))))), (10, (vI (p0.length : Int))), (9, (.d (.sl 11 (p0.map cGSortKey)))), (8, (vI x4)), (0, (.d (.sl 11 (p0.map cGSortKey)))), (3, (.msl 7 11 0 y5.length y5.length)), (4, (vI x4))], [(7, rowsV (y5.map cGSortKey))]⟩
   exact st 3 a8 (ni (loop_back (s' := stwToSortKeyS_L0 p0 (IntKind.wrap .i64 (x4 + 1)) y5) (wr [] (es (es (es er_nil))) (br_rows (by kernel_rfl) br_nil)) (OK_wToSortKeyS_L0 p0 (IntKind.wrap .i64 (x4 + 1)) y5 _ h)))
   refine ei (te (te (bh (xi (so ?_)))))
   let a9 : St := a5.p [(2, (.msl 7 11 0 b7_0.length b7_0.length)), (22, (.msl 7 11 0 b7_0.length b7_0.length))]
   refine st 2 a9 (nx (ret_frz (n := 7) (sz := 11) (l := b7_0) (f := cGSortKey) (s' := ⟨[(2, (.d (.sl 11 (b7_0.map cGSortKey))))], []⟩) (by decide) (fun y => (congrArg List.length (cGSortKey_eq y)).trans rfl) (by kernel_rfl) (⟨.inr ⟨b7_0.length, b7_0.length, by kernel_rfl, lms b7_0 _, by kernel_rfl⟩, trivial⟩) (trivial) (ri ?_)))
   injection h with h; subst h
   exact ret1_step (v := (.d (.sl 11 (b7_0.map cGSortKey)))) (by kernel_rfl) (by kernel_rfl) (by kernel_rfl)
 · intro F_wToExpr OK_wToExpr p0 r h
   refine acalls_of_fn trwToSortKey (Nat.le_of_ble_eq_true rfl) (by simp) ?_
   show avc Try.prog acwToSortKey (qwToSortKey _) ⟨[(0, (vGSortKey p0))], []⟩
   delta acwToSortKey
   refine so ?_
   let a0 : St := ⟨[(2, (.ptr 2 0)), (1, (.ptr 1 0)), (0, (vGSortKey p0))], [(2, [(vI 0), (vI 0), (vB false), (vI 0), (vI 0), (vS []), (vS []), (vS []), (.nil 10), (.nil 6), (vB false)]), (1, bGSortKey p0)]⟩
   refine st 2 a0 (nx (so ?_))
   let a1 : St := ⟨(3, (.ptr 3 0)) :: a0.env, [(3, [(vI 0), (vI 0), (vB false), (vI 0), (vI 0), (vS []), (vS []), (vS []), (.nil 10), (.nil 6), (vB false)]), (2, [(vI 0), (vI 0), (vB false), (vI 0), (vI 0), (vS []), (vS []), (vS []), (.nil 10), (.nil 6), (vB false)]), (1, bGSortKey p0)]⟩
   refine st 1 a1 (nx (so ?_))
   let a2 : St := a1.p [(5, (vGExpr p0.expr)), (4, (.ptr 1 0))]
   refine st 2 a2 (cs h (OK_wToExpr p0.expr) fun y1 h => ?_)
   let a3 : St := ⟨(7, (.ptr 3 0)) :: (6, (vGExpr y1)) :: a2.env, [(3, [(vI y1.kind), (vI y1.op), (vB y1.not_), (vI y1.value.kind), (vI y1.value.num), (vS y1.value.text), (vS y1.qual), (vS y1.name), (.d (.sl 10 (y1.kids.map cGExpr))), (.d (.sl 6 (y1.sub.map cGQuery))), (vB false)]), (2, [(vI 0), (vI 0), (vB false), (vI 0), (vI 0), (vS []), (vS []), (vS []), (.nil 10), (.nil 6), (vB false)]), (1, bGSortKey p0)]⟩
   refine st 2 a3 (nx (so ?_))
   let a4 : St := ⟨(10, (.ptr 3 10)) :: (9, (vB p0.desc)) :: (8, (.ptr 1 10)) :: a3.env, [(3, [(vI y1.kind), (vI y1.op), (vB y1.not_), (vI y1.value.kind), (vI y1.value.num), (vS y1.value.text), (vS y1.qual), (vS y1.name), (.d (.sl 10 (y1.kids.map cGExpr))), (.d (.sl 6 (y1.sub.map cGQuery))), (vB p0.desc)]), (2, [(vI 0), (vI 0), (vB false), (vI 0), (vI 0), (vS []), (vS []), (vS []), (.nil 10), (.nil 6), (vB false)]), (1, bGSortKey p0)]⟩
   refine st 4 a4 (nx (so ?_))
   let a5 : St := ⟨(11, (vGSortKey (GSortKey.mk y1 p0.desc))) :: a4.env, [(3, [(vI y1.kind), (vI y1.op), (vB y1.not_), (vI y1.value.kind), (vI y1.value.num), (vS y1.value.text), (vS y1.qual), (vS y1.name), (.d (.sl 10 (y1.kids.map cGExpr))), (.d (.sl 6 (y1.sub.map cGQuery))), (vB p0.desc)]), (2, bGSortKey (GSortKey.mk y1 p0.desc)), (1, bGSortKey p0)]⟩
   refine st 2 a5 (nx (ri ?_))
   injection h with h; subst h
   exact ret1_step (v := (vGSortKey (GSortKey.mk y1 p0.desc))) (by kernel_rfl) (by kernel_rfl) (by kernel_rfl)
 · intro F_wToSourceS_L0 OK_wToSourceS_L0 p0 r h
   refine acalls_of_fn trwToSourceS (Nat.le_of_ble_eq_true rfl) (by simp) ?_
   show avc Try.prog acwToSourceS (qwToSourceS _) ⟨[(0, (.d (.sl 3 (p0.map cGSource))))], []⟩
   delta acwToSourceS
   refine so ?_
   let a0 : St := ⟨[(2, (.nil 3)), (0, (.d (.sl 3 (p0.map cGSource))))], []⟩
   refine st 1 a0 (nx (so ?_))
   let a1 : St := a0.p [(5, (.d (.sl 3 (p0.map cGSource))))]
   refine st 1 a1 (ps (vI (p0.length : Int)) (vop_len (sz := 3) (l := p0) (f := cGSource) (by kernel_rfl) (by kernel_rfl)) ?_)
   refine mks_step (k := .i64) (k' := .i64) (z := ((GSource.mk [] [] ([] : List GExpr)) : GSource)) (f := cGSource) (S' := fun y => ⟨(7, (.msl 7 3 0 y.length y.length)) :: (6, (vI (p0.length : Int))) :: a1.env, [(7, rowsV (y.map cGSource))]⟩) h (by kernel_rfl) (by kernel_rfl) (by kernel_rfl) (by kernel_rfl) (by kernel_rfl) (fun y => by kernel_rfl) ?_
   clear h; intro y1 h
   let a2 : St := ⟨(3, (.msl 7 3 0 y1.length y1.length)) :: (7, (.msl 7 3 0 y1.length y1.length)) :: (6, (vI (p0.length : Int))) :: a1.env, [(7, rowsV (y1.map cGSource))]⟩
   refine st 1 a2 (nx (si (so ?_)))
   let a3 : St := a2.p [(4, (vI 0))]
   exact st 1 a3 (nx (bi (loop_go (s' := stwToSourceS_L0 p0 0 y1) (wr [] (es (es (es er_nil))) (br_rows (by kernel_rfl) br_nil)) (OK_wToSourceS_L0 p0 0 y1 _ h))))
 · intro F_wToSource F_wToSourceS_L0 OK_wToSource OK_wToSourceS_L0 p0 x4 b7_0 r h
   delta acwToSourceS_L0
   refine loop_unroll (si (so ?_))
   let a4 : St := (stwToSourceS_L0 p0 x4 b7_0).p [(9, (.d (.sl 3 (p0.map cGSource)))), (8, (vI x4))]
   refine st 2 a4 (ps (vI (p0.length : Int)) (vop_len (sz := 3) (l := p0) (f := cGSource) (by kernel_rfl) (by kernel_rfl)) ?_)
   let a5 : St := a4.p [(11, (vB (decide (x4 < (p0.length : Int))))), (10, (vI (p0.length : Int)))]
   refine st 1 a5 (nx ?_)
   refine cd h (fun h => ?_) fun h => ?_
   refine ki (xi (si (bi (oi ?_))))
   let a6 : St := a5.p [(17, (vI x4)), (16, (.d (.sl 3 (p0.map cGSource)))), (15, (vI x4)), (14, (.msl 7 3 0 b7_0.length b7_0.length))]
   refine st 4 a6 (vs (fun (y : GSource) => (.rp (oGSource y))) h (fun y hy => vop_ia (l := p0) (f := cGSource) (g := oGSource) (k := .i64) hy cGSource_eq (by kernel_rfl) (by kernel_rfl) (by kernel_rfl)) fun y2 h => ?_)
   let a7 : St := a6.p [(19, (vGSource y2)), (18, (.rp (oGSource y2)))]
   refine st 1 a7 (cs h (OK_wToSource y2) fun y3 h => (vs (fun (y : GSource) => (.ptr 7 ((0 + (x4).toNat) * 3))) h (fun y hy => vop_iaE (l := b7_0) (k := .i64) hy (by kernel_rfl) (by kernel_rfl) (by kernel_rfl)) fun y4 h => ?_))
   refine sti_step (b := 7) (i := x4) (l := b7_0) (v := y3) (f := cGSource) (u := (vGSource y3)) (T := fun y m => ⟨[(21, (.ptr 7 ((0 + (x4).toNat) * 3))), (20, (vGSource y3)), (19, (vGSource y2)), (18, (.rp (oGSource y2))), (17, (vI x4)), (16, (.d (.sl 3 (p0.map cGSource)))), (15, (vI x4)), (14, (.msl 7 3 0 m m)), (11, (vB (decide (x4 < (p0.length : Int))))), (10, (vI (p0.length : Int))), (9, (.d (.sl 3 (p0.map cGSource)))), (8, (vI x4)), (0, (.d (.sl 3 (p0.map cGSource)))), (3, (.msl 7 3 0 m m)), (4, (vI x4))], [(7, rowsV (y.map cGSource))]⟩) h (by kernel_rfl) (by kernel_rfl) (by kernel_rfl) (congrArg (List.map V.d) (cGSource_eq y3).symm) (fun y => (congrArg List.length (cGSource_eq y)).trans rfl) (by kernel_rfl) (fun y => by kernel_rfl) ?_
   clear h; intro y5 h
   refine ni (bn (xi (oi ?_)))
   let a8 : St := ⟨[(4, (vI (IntKind.wrap .i64 (x4 + 1)))), (13, (vI (IntKind.wrap .i64 (x4 + 1)))), (12, (vI x4)), (21, (.ptr 7 ((0 + (x4).toNat) * 3))), (20, (vGSource y3)), (19, (vGSource y2)), (18, (.rp (oGSource y2))), (17, (vI x4)), (16, (.d (.sl 3 (p0.map cGSource)))), (15, (vI x4)), (14, (.msl 7 3 0 y5.length y5.length)), (11, (vB (decide (x4 < (p0.length : Int))))), (10, (vI (p0.length : Int))), (9, (.d (.sl 3 (p0.map cGSource)))), (8, (vI x4)), (0, (.d (.sl 3 (p0.map cGSource)))), (3, (.msl 7 3 0 y5.length y5.length)), (4, (vI x4))], [(7, rowsV (y5.map cGSource))]⟩
   exact st 3 a8 (ni (loop_back (s' := stwToSourceS_L0 p0 (IntKind.wrap .i64 (x4 + 1)) y5) (wr [] (es (es (es er_nil))) (br_rows (by kernel_rfl) br_nil)) (OK_wToSourceS_L0 p0 (IntKind.wrap .i64 (x4 + 1)) y5 _ h)))
   refine ei (te (te (bh (xi (so ?_)))))
   let a9 : St := a5.p [(2, (.msl 7 3 0 b7_0.length b7_0.length)), (22, (.msl 7 3 0 b7_0.length b7_0.length))]
   refine st 2 a9 (nx (ret_frz (n := 7) (sz := 3) (l := b7_0) (f := cGSource) (s' := ⟨[(2, (.d (.sl 3 (b7_0.map cGSource))))], []⟩) (by decide) (fun y => (congrArg List.length (cGSource_eq y)).trans rfl) (by kernel_rfl) (⟨.inr ⟨b7_0.length, b7_0.length, by kernel_rfl, lms b7_0 _, by kernel_rfl⟩, trivial⟩) (trivial) (ri ?_)))
   injection h with h; subst h
   exact ret1_step (v := (.d (.sl 3 (b7_0.map cGSource)))) (by kernel_rfl) (by kernel_rfl) (by kernel_rfl)
 · intro F_wToItemS_L0 OK_wToItemS_L0 p0 r h
   refine acalls_of_fn trwToItemS (Nat.le_of_ble_eq_true rfl) (by simp) ?_
   show avc Try.prog acwToItemS (qwToItemS _) ⟨[(0, (.d (.sl 13 (p0.map cGItem))))], []⟩
   delta acwToItemS
   refine so ?_
   let a0 : St := ⟨[(2, (.nil 13)), (0, (.d (.sl 13 (p0.map cGItem))))], []⟩
   refine st 1 a0 (nx (so ?_))
   let a1 : St := a0.p [(5, (.d (.sl 13 (p0.map cGItem))))]
   refine st 1 a1 (ps (vI (p0.length : Int)) (vop_len (sz := 13) (l := p0) (f := cGItem) (by kernel_rfl) (by kernel_rfl)) ?_)
   refine mks_step (k := .i64) (k' := .i64) (z := ((GItem.mk false [] (GExpr.mk 0 0 false (GValue.mk 0 0 []) [] [] ([] : List GExpr) ([] : List GQuery)) []) : GItem)) (f := cGItem) (S' := fun y => ⟨(7, (.msl 7 13 0 y.length y.length)) :: (6, (vI (p0.length : Int))) :: a1.env, [(7, rowsV (y.map cGItem))]⟩) h (by kernel_rfl) (by kernel_rfl) (by kernel_rfl) (by kernel_rfl) (by kernel_rfl) (fun y => by kernel_rfl) ?_
   clear h; intro y1 h
   let a2 : St := ⟨(3, (.msl 7 13 0 y1.length y1.length)) :: (7, (.msl 7 13 0 y1.length y1.length)) :: (6, (vI (p0.length : Int))) :: a1.env, [(7, rowsV (y1.map cGItem))]⟩
   refine st 1 a2 (nx (si (so ?_)))
   let a3 : St := a2.p [(4, (vI 0))]
   exact st 1 a3 (nx (bi (loop_go (s' := stwToItemS_L0 p0 0 y1) (wr [] (es (es (es er_nil))) (br_rows (by kernel_rfl) br_nil)) (OK_wToItemS_L0 p0 0 y1 _ h))))
 · intro F_wToItemS_L0 F_wToItem OK_wToItemS_L0 OK_wToItem p0 x4 b7_0 r h
   delta acwToItemS_L0
   refine loop_unroll (si (so ?_))
   let a4 : St := (stwToItemS_L0 p0 x4 b7_0).p [(9, (.d (.sl 13 (p0.map cGItem)))), (8, (vI x4))]
   refine st 2 a4 (ps (vI (p0.length : Int)) (vop_len (sz := 13) (l := p0) (f := cGItem) (by kernel_rfl) (by kernel_rfl)) ?_)
   let a5 : St := a4.p [(11, (vB (decide (x4 < (p0.length : Int))))), (10, (vI (p0.length : Int)))]
   refine st 1 a5 (nx ?_)
   refine cd h (fun h => ?_) fun h => ?_
   refine ki (xi (si (bi (oi ?_))))
   let a6 : St := a5.p [(17, (vI x4)), (16, (.d (.sl 13 (p0.map cGItem)))), (15, (vI x4)), (14, (.msl 7 13 0 b7_0.length b7_0.length))]
   refine st 4 a6 (vs (fun (y : GItem) => (.rp (oGItem y))) h (fun y hy => vop_ia (l := p0) (f := cGItem) (g := oGItem) (k := .i64) hy cGItem_eq (by kernel_rfl) (by kernel_rfl) (by kernel_rfl)) fun y2 h => ?_)
   let a7 : St := a6.p [(19, (vGItem y2)), (18, (.rp (oGItem y2)))]
   refine st 1 a7 (cs h (OK_wToItem y2) fun y3 h => (vs (fun (y : GItem) => (.ptr 7 ((0 + (x4).toNat) * 13))) h (fun y hy => vop_iaE (l := b7_0) (k := .i64) hy (by kernel_rfl) (by kernel_rfl) (by kernel_rfl)) fun y4 h => ?_))
   refine sti_step (b := 7) (i := x4) (l := b7_0) (v := y3) (f := cGItem) (u := (vGItem y3)) (T := fun y m => ⟨[(21, (.ptr 7 ((0 + (x4).toNat) * 13))), (20, (vGItem y3)), (19, (vGItem y2)), (18, (.rp (oGItem y2))), (17, (vI x4)), (16, (.d (.sl 13 (p0.map cGItem)))), (15, (vI x4)), (14, (.msl 7 13 0 m m)), (11, (vB (decide (x4 < (p0.length : Int))))), (10, (vI (p0.length : Int))), (9, (.d (.sl 13 (p0.map cGItem)))), (8, (vI x4)), (0, (.d (.sl 13 (p0.map cGItem)))), (3, (.msl 7 13 0 m m)), (4, (vI x4))], [(7, rowsV (y.map cGItem))]⟩) h (by kernel_rfl) (by kernel_rfl) (by kernel_rfl) (congrArg (List.map V.d) (cGItem_eq y3).symm) (fun y => (congrArg List.length (cGItem_eq y)).trans rfl) (by kernel_rfl) (fun y => by kernel_rfl) ?_
   clear h; intro y5 h
   refine ni (bn (xi (oi ?_)))
   let a8 : St := ⟨[(4, (vI (IntKind.wrap .i64 (x4 + 1)))), (13, (vI (IntKind.wrap .i64 (x4 + 1)))), (12, (vI x4)), (21, (.ptr 7 ((0 + (x4).toNat) * 13))), (20, (vGItem y3)), (19, (vGItem y2)), (18, (.rp (oGItem y2))), (17, (vI x4)), (16, (.d (.sl 13 (p0.map cGItem)))), (15, (vI x4)), (14, (.msl 7 13 0 y5.length y5.length)), (11, (vB (decide (x4 < (p0.length : Int))))), (10, (vI (p0.length : Int))), (9, (.d (.sl 13 (p0.map cGItem)))), (8, (vI x4)), (0, (.d (.sl 13 (p0.map cGItem)))), (3, (.msl 7 13 0 y5.length y5.length)), (4, (vI x4))], [(7, rowsV (y5.map cGItem))]⟩
   exact st 3 a8 (ni (loop_back (s' := stwToItemS_L0 p0 (IntKind.wrap .i64 (x4 + 1)) y5) (wr [] (es (es (es er_nil))) (br_rows (by kernel_rfl) br_nil)) (OK_wToItemS_L0 p0 (IntKind.wrap .i64 (x4 + 1)) y5 _ h)))
   refine ei (te (te (bh (xi (so ?_)))))
   let a9 : St := a5.p [(2, (.msl 7 13 0 b7_0.length b7_0.length)), (22, (.msl 7 13 0 b7_0.length b7_0.length))]
   refine st 2 a9 (nx (ret_frz (n := 7) (sz := 13) (l := b7_0) (f := cGItem) (s' := ⟨[(2, (.d (.sl 13 (b7_0.map cGItem))))], []⟩) (by decide) (fun y => (congrArg List.length (cGItem_eq y)).trans rfl) (by kernel_rfl) (⟨.inr ⟨b7_0.length, b7_0.length, by kernel_rfl, lms b7_0 _, by kernel_rfl⟩, trivial⟩) (trivial) (ri ?_)))
   injection h with h; subst h
   exact ret1_step (v := (.d (.sl 13 (b7_0.map cGItem)))) (by kernel_rfl) (by kernel_rfl) (by kernel_rfl)
 · intro F_wToExpr OK_wToExpr p0 r h
   refine acalls_of_fn trwToItem (Nat.le_of_ble_eq_true rfl) (by simp) ?_
   show avc Try.prog acwToItem (qwToItem _) ⟨[(0, (vGItem p0))], []⟩
   delta acwToItem
   refine so ?_
   let a0 : St := ⟨[(2, (.ptr 2 0)), (1, (.ptr 1 0)), (0, (vGItem p0))], [(2, [(vB false), (vS []), (vI 0), (vI 0), (vB false), (vI 0), (vI 0), (vS []), (vS []), (vS []), (.nil 10), (.nil 6), (vS [])]), (1, bGItem p0)]⟩
   refine st 2 a0 (nx (so ?_))
   let a1 : St := ⟨(3, (.ptr 3 0)) :: a0.env, [(3, [(vB false), (vS []), (vI 0), (vI 0), (vB false), (vI 0), (vI 0), (vS []), (vS []), (vS []), (.nil 10), (.nil 6), (vS [])]), (2, [(vB false), (vS []), (vI 0), (vI 0), (vB false), (vI 0), (vI 0), (vS []), (vS []), (vS []), (.nil 10), (.nil 6), (vS [])]), (1, bGItem p0)]⟩
   refine st 1 a1 (nx (so ?_))
   let a2 : St := ⟨(6, (.ptr 3 0)) :: (5, (vB p0.star)) :: (4, (.ptr 1 0)) :: a1.env, [(3, [(vB p0.star), (vS []), (vI 0), (vI 0), (vB false), (vI 0), (vI 0), (vS []), (vS []), (vS []), (.nil 10), (.nil 6), (vS [])]), (2, [(vB false), (vS []), (vI 0), (vI 0), (vB false), (vI 0), (vI 0), (vS []), (vS []), (vS []), (.nil 10), (.nil 6), (vS [])]), (1, bGItem p0)]⟩
   refine st 4 a2 (nx (so ?_))
   let a3 : St := ⟨(9, (.ptr 3 1)) :: (8, (vS p0.qual)) :: (7, (.ptr 1 1)) :: a2.env, [(3, [(vB p0.star), (vS p0.qual), (vI 0), (vI 0), (vB false), (vI 0), (vI 0), (vS []), (vS []), (vS []), (.nil 10), (.nil 6), (vS [])]), (2, [(vB false), (vS []), (vI 0), (vI 0), (vB false), (vI 0), (vI 0), (vS []), (vS []), (vS []), (.nil 10), (.nil 6), (vS [])]), (1, bGItem p0)]⟩
   refine st 4 a3 (nx (so ?_))
   let a4 : St := a3.p [(11, (vGExpr p0.expr)), (10, (.ptr 1 2))]
   refine st 2 a4 (cs h (OK_wToExpr p0.expr) fun y1 h => ?_)
   let a5 : St := ⟨(13, (.ptr 3 2)) :: (12, (vGExpr y1)) :: a4.env, [(3, [(vB p0.star), (vS p0.qual), (vI y1.kind), (vI y1.op), (vB y1.not_), (vI y1.value.kind), (vI y1.value.num), (vS y1.value.text), (vS y1.qual), (vS y1.name), (.d (.sl 10 (y1.kids.map cGExpr))), (.d (.sl 6 (y1.sub.map cGQuery))), (vS [])]), (2, [(vB false), (vS []), (vI 0), (vI 0), (vB false), (vI 0), (vI 0), (vS []), (vS []), (vS []), (.nil 10), (.nil 6), (vS [])]), (1, bGItem p0)]⟩
   refine st 2 a5 (nx (so ?_))
   let a6 : St := ⟨(16, (.ptr 3 12)) :: (15, (vS p0.as_)) :: (14, (.ptr 1 12)) :: a5.env, [(3, [(vB p0.star), (vS p0.qual), (vI y1.kind), (vI y1.op), (vB y1.not_), (vI y1.value.kind), (vI y1.value.num), (vS y1.value.text), (vS y1.qual), (vS y1.name), (.d (.sl 10 (y1.kids.map cGExpr))), (.d (.sl 6 (y1.sub.map cGQuery))), (vS p0.as_)]), (2, [(vB false), (vS []), (vI 0), (vI 0), (vB false), (vI 0), (vI 0), (vS []), (vS []), (vS []), (.nil 10), (.nil 6), (vS [])]), (1, bGItem p0)]⟩
   refine st 4 a6 (nx (so ?_))
   let a7 : St := ⟨(17, (vGItem (GItem.mk p0.star p0.qual y1 p0.as_))) :: a6.env, [(3, [(vB p0.star), (vS p0.qual), (vI y1.kind), (vI y1.op), (vB y1.not_), (vI y1.value.kind), (vI y1.value.num), (vS y1.value.text), (vS y1.qual), (vS y1.name), (.d (.sl 10 (y1.kids.map cGExpr))), (.d (.sl 6 (y1.sub.map cGQuery))), (vS p0.as_)]), (2, bGItem (GItem.mk p0.star p0.qual y1 p0.as_)), (1, bGItem p0)]⟩
   refine st 2 a7 (nx (ri ?_))
   injection h with h; subst h
   exact ret1_step (v := (vGItem (GItem.mk p0.star p0.qual y1 p0.as_))) (by kernel_rfl) (by kernel_rfl) (by kernel_rfl)
theorem OK_wToSource (p0 : GSource) : FOk Try.prog 121 [(vGSource p0)] (fun y => (vGSource y)) (wToSource p0) := fun r h => (OKs_wToSource).1 p0 r h
theorem OK_wToExprS (p0 : (List GExpr)) : FOk Try.prog 63 [(.d (.sl 10 (p0.map cGExpr)))] (fun y => (.d (.sl 10 (y.map cGExpr)))) (wToExprS p0) := fun r h => (OKs_wToSource).2.1 p0 r h
theorem OK_wToExprS_L0 (p0 : (List GExpr)) (x4 : Int) (b7_0 : (List GExpr)) (r : (List GExpr)) (h : wToExprS_L0 p0 x4 b7_0 = some r) : avc Try.prog acwToExprS_L0 (qwToExprS_1 r) (stwToExprS_L0 p0 x4 b7_0) := (OKs_wToSource).2.2.1 p0 x4 b7_0 r h
theorem OK_wToExpr (p0 : GExpr) : FOk Try.prog 21 [(vGExpr p0)] (fun y => (vGExpr y)) (wToExpr p0) := fun r h => (OKs_wToSource).2.2.2.1 p0 r h
theorem OK_wToQueryS (p0 : (List GQuery)) : FOk Try.prog 74 [(.d (.sl 6 (p0.map cGQuery)))] (fun y => (.d (.sl 6 (y.map cGQuery)))) (wToQueryS p0) := fun r h => (OKs_wToSource).2.2.2.2.1 p0 r h
theorem OK_wToQueryS_L0 (p0 : (List GQuery)) (x4 : Int) (b7_0 : (List GQuery)) (r : (List GQuery)) (h : wToQueryS_L0 p0 x4 b7_0 = some r) : avc Try.prog acwToQueryS_L0 (qwToQueryS_1 r) (stwToQueryS_L0 p0 x4 b7_0) := (OKs_wToSource).2.2.2.2.2.1 p0 x4 b7_0 r h
theorem OK_wToQuery (p0 : GQuery) : FOk Try.prog 16 [(vGQuery p0)] (fun y => (vGQuery y)) (wToQuery p0) := fun r h => (OKs_wToSource).2.2.2.2.2.2.1 p0 r h
theorem OK_wToSortKeyS (p0 : (List GSortKey)) : FOk Try.prog 64 [(.d (.sl 11 (p0.map cGSortKey)))] (fun y => (.d (.sl 11 (y.map cGSortKey)))) (wToSortKeyS p0) := fun r h => (OKs_wToSource).2.2.2.2.2.2.2.1 p0 r h
theorem OK_wToSortKeyS_L0 (p0 : (List GSortKey)) (x4 : Int) (b7_0 : (List GSortKey)) (r : (List GSortKey)) (h : wToSortKeyS_L0 p0 x4 b7_0 = some r) : avc Try.prog acwToSortKeyS_L0 (qwToSortKeyS_1 r) (stwToSortKeyS_L0 p0 x4 b7_0) := (OKs_wToSource).2.2.2.2.2.2.2.2.1 p0 x4 b7_0 r h
theorem OK_wToSortKey (p0 : GSortKey) : FOk Try.prog 122 [(vGSortKey p0)] (fun y => (vGSortKey y)) (wToSortKey p0) := fun r h => (OKs_wToSource).2.2.2.2.2.2.2.2.2.1 p0 r h
theorem OK_wToSourceS (p0 : (List GSource)) : FOk Try.prog 62 [(.d (.sl 3 (p0.map cGSource)))] (fun y => (.d (.sl 3 (y.map cGSource)))) (wToSourceS p0) := fun r h => (OKs_wToSource).2.2.2.2.2.2.2.2.2.2.1 p0 r h
theorem OK_wToSourceS_L0 (p0 : (List GSource)) (x4 : Int) (b7_0 : (List GSource)) (r : (List GSource)) (h : wToSourceS_L0 p0 x4 b7_0 = some r) : avc Try.prog acwToSourceS_L0 (qwToSourceS_1 r) (stwToSourceS_L0 p0 x4 b7_0) := (OKs_wToSource).2.2.2.2.2.2.2.2.2.2.2.1 p0 x4 b7_0 r h
theorem OK_wToItemS (p0 : (List GItem)) : FOk Try.prog 61 [(.d (.sl 13 (p0.map cGItem)))] (fun y => (.d (.sl 13 (y.map cGItem)))) (wToItemS p0) := fun r h => (OKs_wToSource).2.2.2.2.2.2.2.2.2.2.2.2.1 p0 r h
theorem OK_wToItemS_L0 (p0 : (List GItem)) (x4 : Int) (b7_0 : (List GItem)) (r : (List GItem)) (h : wToItemS_L0 p0 x4 b7_0 = some r) : avc Try.prog acwToItemS_L0 (qwToItemS_1 r) (stwToItemS_L0 p0 x4 b7_0) := (OKs_wToSource).2.2.2.2.2.2.2.2.2.2.2.2.2.1 p0 x4 b7_0 r h
theorem OK_wToItem (p0 : GItem) : FOk Try.prog 120 [(vGItem p0)] (fun y => (vGItem y)) (wToItem p0) := fun r h => (OKs_wToSource).2.2.2.2.2.2.2.2.2.2.2.2.2.2 p0 r h
theorem OK_wFnExactQueryOk (p0 : GQuery) : FOk Try.prog 10 [(vGQuery p0)] (fun y => (vB y)) (wFnExactQueryOk p0) := by
 intro r h
 rw [wFnExactQueryOk] at h
 refine acalls_of_fn trwFnExactQueryOk (Nat.le_of_ble_eq_true rfl) (by simp) ?_
 show avc Try.prog acwFnExactQueryOk (qwFnExactQueryOk _) ⟨[(0, (vGQuery p0))], []⟩
 delta acwFnExactQueryOk
 refine so ?_
 let a0 : St := ⟨[(2, (vB false)), (1, (.ptr 1 0)), (0, (vGQuery p0))], [(1, bGQuery p0)]⟩
 refine st 2 a0 (nx (so ?_))
 let a1 : St := a0.p [(3, (vI 1048576))]
 refine st 1 a1 (nx (so ?_))
 let a2 : St := a1.p [(8, (vI 1048576)), (7, (vGQuery p0))]
 refine st 2 a2 (cs h (OK_wSzQuery p0 1048576) fun y1 h => ?_)
 let a3 : St := a2.p [(3, (vI y1)), (9, (vI y1))]
 refine st 1 a3 (nx (si (so ?_)))
 let a4 : St := a3.p [(11, (vB (decide (y1 < 0)))), (10, (vI y1))]
 refine st 2 a4 (nx ?_)
 refine cd h (fun h => ?_) fun h => ?_
 refine so ?_
 let a5 : St := a4.p [(2, (vB true))]
 refine st 1 a5 (nx (ri (tr ?_)))
 injection h with h; subst h
 exact ret1_step (v := (vB true)) (by kernel_rfl) (by kernel_rfl) (by kernel_rfl)
 refine ki (xi (so ?_))
 let a6 : St := a4.p [(12, (vGQuery p0))]
 refine st 1 a6 (cs h (OK_wToQuery p0) fun y2 h => (cs h (OK_sQueryOk y2) fun y3 h => ?_))
 let a7 : St := a6.p [(4, (vB y3)), (14, (vB y3)), (13, (vGQuery y2))]
 refine st 1 a7 (nx (so ?_))
 let a8 : St := a7.p [(15, (vGQuery p0))]
 refine st 1 a8 (cs h (OK_wToQuery p0) fun y4 h => ?_)
 let a9 : St := ⟨(5, (.ptr 5 0)) :: (16, (vGQuery y4)) :: a8.env, [(5, bGQuery y4), (1, bGQuery p0)]⟩
 refine st 2 a9 (nx (so ?_))
 let a10 : St := a9.p [(17, (vGQuery y4))]
 refine st 1 a10 (cs h (OK_iQueryOk y4) fun y5 h => ?_)
 let a11 : St := a10.p [(6, (vB y5)), (18, (vB y5))]
 refine st 1 a11 (nx (si (so ?_)))
 let a12 : St := a11.p [(21, (vB (!(y5 == y3)))), (20, (vB y3)), (19, (vB y5))]
 refine st 3 a12 (nx ?_)
 refine cd h (fun h => ?_) fun h => ?_
 refine so ?_
 let a13 : St := a12.p [(2, (vB false))]
 refine st 1 a13 (nx (ri (tr ?_)))
 injection h with h; subst h
 exact ret1_step (v := (vB false)) (by kernel_rfl) (by kernel_rfl) (by kernel_rfl)
 refine ki (xi (si (si (dops_in ?_))))
 let a14 : St := a12.p [(23, (vGQuery p0)), (22, (vGQuery y4))]
 refine dsts_ok 2 (s' := a14) (by kernel_rfl) (dcall_step (m := wToQuery p0) (args := [(vGQuery p0)]) (v' := (fun y => (vGQuery y))) h (OK_wToQuery p0) (by kernel_rfl) (by kernel_rfl) (fun _ => rfl) ?_)
 clear h; intro y6 h
 refine dcall_step (m := wEqQuery y4 y6) (args := [(vGQuery y4), (vGQuery y6)]) (v' := (fun y => (vB y))) h (OK_wEqQuery y4 y6) (by kernel_rfl) (by kernel_rfl) (fun _ => rfl) ?_
 clear h; intro y7 h
 let a15 : St := a14.p [(26, (vB (!y7))), (25, (vB y7)), (24, (vGQuery y6))]
 refine dsts_ok 1 (s' := a15) (by kernel_rfl) (dnil_in (by kernel_rfl) (by kernel_rfl) (xi ?_))
 refine cd h (fun h => ?_) fun h => ?_
 refine so ?_
 let a16 : St := a15.p [(2, (vB false))]
 refine st 1 a16 (nx (ri (tr ?_)))
 injection h with h; subst h
 exact ret1_step (v := (vB false)) (by kernel_rfl) (by kernel_rfl) (by kernel_rfl)
 refine ki (xi (so ?_))
 let a17 : St := a15.p [(2, (vB true))]
 refine st 1 a17 (nx (ri ?_))
 injection h with h; subst h
 exact ret1_step (v := (vB true)) (by kernel_rfl) (by kernel_rfl) (by kernel_rfl)
theorem law_wFnExactQueryOk (hp : ∀ (x0 : GQuery) (_ : okGQuery x0), wFnExactQueryOk x0 = some true) (ls : List (List D)) (hw : WtA Try.prog [27] ls) (hok : ∀ l ∈ ls, ∀ x ∈ l, OkD x) : ACalls Try.prog 10 (argsV Try.prog [27] ls) [] fun x _ => x = .d (.b true) := by
  rcases hw with _ | ⟨h0, hw⟩
  cases hw
  obtain ⟨x0, rfl⟩ := de27 h0
  have a0 : argV Try.prog 27 (cGQuery x0) = (vGQuery x0) := (congrArg _ (cGQuery_eq x0)).trans (by kernel_rfl)
  have k0 : ∀ d ∈ cGQuery x0, OkD d := hok _ (by simp)
  simp only [argsV, a0]
  exact OK_wFnExactQueryOk x0 true (hp x0 (koGQuery x0 k0))
end Go.Proofs.Ytdiknmniclancaa
