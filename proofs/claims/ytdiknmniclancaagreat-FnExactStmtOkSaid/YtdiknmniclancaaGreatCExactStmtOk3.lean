/- That the code computes these functions (printed by a program). -/
import Derived.Test.YtdiknmniclancaaGreatCExactStmtOk2
namespace Go.Proofs.YtdiknmniclancaaGreat
open Go Go.RowKit Go.Ab
theorem OKs_wToSource : (∀ (p0 : GSource) (r : GSource), wToSource p0 = some r → ACalls Tryz.prog 88 [(vGSource p0)] [] fun x _ => x = (fun y => (vGSource y)) r) ∧ (∀ (p0 : (List GExpr)) (r : (List GExpr)), wToExprS p0 = some r → ACalls Tryz.prog 19 [(.d (.sl 10 (p0.map cGExpr)))] [] fun x _ => x = (fun y => (.d (.sl 10 (y.map cGExpr)))) r) ∧ (∀ (p0 : (List GExpr)) (x4 : Int) (b7_0 : (List GExpr)) (r : (List GExpr)), wToExprS_L0 p0 x4 b7_0 = some r → avc Tryz.prog acwToExprS_L0 (qwToExprS_1 r) (stwToExprS_L0 p0 x4 b7_0)) ∧ (∀ (p0 : GExpr) (r : GExpr), wToExpr p0 = some r → ACalls Tryz.prog 52 [(vGExpr p0)] [] fun x _ => x = (fun y => (vGExpr y)) r) ∧ (∀ (p0 : (List GQuery)) (r : (List GQuery)), wToQueryS p0 = some r → ACalls Tryz.prog 91 [(.d (.sl 6 (p0.map cGQuery)))] [] fun x _ => x = (fun y => (.d (.sl 6 (y.map cGQuery)))) r) ∧ (∀ (p0 : (List GQuery)) (x4 : Int) (b7_0 : (List GQuery)) (r : (List GQuery)), wToQueryS_L0 p0 x4 b7_0 = some r → avc Tryz.prog acwToQueryS_L0 (qwToQueryS_1 r) (stwToQueryS_L0 p0 x4 b7_0)) ∧ (∀ (p0 : GQuery) (r : GQuery), wToQuery p0 = some r → ACalls Tryz.prog 16 [(vGQuery p0)] [] fun x _ => x = (fun y => (vGQuery y)) r) ∧ (∀ (p0 : (List GSortKey)) (r : (List GSortKey)), wToSortKeyS p0 = some r → ACalls Tryz.prog 51 [(.d (.sl 11 (p0.map cGSortKey)))] [] fun x _ => x = (fun y => (.d (.sl 11 (y.map cGSortKey)))) r) ∧ (∀ (p0 : (List GSortKey)) (x4 : Int) (b7_0 : (List GSortKey)) (r : (List GSortKey)), wToSortKeyS_L0 p0 x4 b7_0 = some r → avc Tryz.prog acwToSortKeyS_L0 (qwToSortKeyS_1 r) (stwToSortKeyS_L0 p0 x4 b7_0)) ∧ (∀ (p0 : GSortKey) (r : GSortKey), wToSortKey p0 = some r → ACalls Tryz.prog 89 [(vGSortKey p0)] [] fun x _ => x = (fun y => (vGSortKey y)) r) ∧ (∀ (p0 : (List GSource)) (r : (List GSource)), wToSourceS p0 = some r → ACalls Tryz.prog 50 [(.d (.sl 3 (p0.map cGSource)))] [] fun x _ => x = (fun y => (.d (.sl 3 (y.map cGSource)))) r) ∧ (∀ (p0 : (List GSource)) (x4 : Int) (b7_0 : (List GSource)) (r : (List GSource)), wToSourceS_L0 p0 x4 b7_0 = some r → avc Tryz.prog acwToSourceS_L0 (qwToSourceS_1 r) (stwToSourceS_L0 p0 x4 b7_0)) ∧ (∀ (p0 : (List GItem)) (r : (List GItem)), wToItemS p0 = some r → ACalls Tryz.prog 49 [(.d (.sl 13 (p0.map cGItem)))] [] fun x _ => x = (fun y => (.d (.sl 13 (y.map cGItem)))) r) ∧ (∀ (p0 : (List GItem)) (x4 : Int) (b7_0 : (List GItem)) (r : (List GItem)), wToItemS_L0 p0 x4 b7_0 = some r → avc Tryz.prog acwToItemS_L0 (qwToItemS_1 r) (stwToItemS_L0 p0 x4 b7_0)) ∧ (∀ (p0 : GItem) (r : GItem), wToItem p0 = some r → ACalls Tryz.prog 87 [(vGItem p0)] [] fun x _ => x = (fun y => (vGItem y)) r) := by
 refine wToSource.mutual_partial_correctness (fun p0 r => ACalls Tryz.prog 88 [(vGSource p0)] [] fun x _ => x = (fun y => (vGSource y)) r) (fun p0 r => ACalls Tryz.prog 19 [(.d (.sl 10 (p0.map cGExpr)))] [] fun x _ => x = (fun y => (.d (.sl 10 (y.map cGExpr)))) r) (fun p0 x4 b7_0 r => avc Tryz.prog acwToExprS_L0 (qwToExprS_1 r) (stwToExprS_L0 p0 x4 b7_0)) (fun p0 r => ACalls Tryz.prog 52 [(vGExpr p0)] [] fun x _ => x = (fun y => (vGExpr y)) r) (fun p0 r => ACalls Tryz.prog 91 [(.d (.sl 6 (p0.map cGQuery)))] [] fun x _ => x = (fun y => (.d (.sl 6 (y.map cGQuery)))) r) (fun p0 x4 b7_0 r => avc Tryz.prog acwToQueryS_L0 (qwToQueryS_1 r) (stwToQueryS_L0 p0 x4 b7_0)) (fun p0 r => ACalls Tryz.prog 16 [(vGQuery p0)] [] fun x _ => x = (fun y => (vGQuery y)) r) (fun p0 r => ACalls Tryz.prog 51 [(.d (.sl 11 (p0.map cGSortKey)))] [] fun x _ => x = (fun y => (.d (.sl 11 (y.map cGSortKey)))) r) (fun p0 x4 b7_0 r => avc Tryz.prog acwToSortKeyS_L0 (qwToSortKeyS_1 r) (stwToSortKeyS_L0 p0 x4 b7_0)) (fun p0 r => ACalls Tryz.prog 89 [(vGSortKey p0)] [] fun x _ => x = (fun y => (vGSortKey y)) r) (fun p0 r => ACalls Tryz.prog 50 [(.d (.sl 3 (p0.map cGSource)))] [] fun x _ => x = (fun y => (.d (.sl 3 (y.map cGSource)))) r) (fun p0 x4 b7_0 r => avc Tryz.prog acwToSourceS_L0 (qwToSourceS_1 r) (stwToSourceS_L0 p0 x4 b7_0)) (fun p0 r => ACalls Tryz.prog 49 [(.d (.sl 13 (p0.map cGItem)))] [] fun x _ => x = (fun y => (.d (.sl 13 (y.map cGItem)))) r) (fun p0 x4 b7_0 r => avc Tryz.prog acwToItemS_L0 (qwToItemS_1 r) (stwToItemS_L0 p0 x4 b7_0)) (fun p0 r => ACalls Tryz.prog 87 [(vGItem p0)] [] fun x _ => x = (fun y => (vGItem y)) r) ?_ ?_ ?_ ?_ ?_ ?_ ?_ ?_ ?_ ?_ ?_ ?_ ?_ ?_ ?_
 · intro F_wToExprS OK_wToExprS p0 r h
   refine aof trwToSource ?_
   show avc Tryz.prog acwToSource (qwToSource _) ⟨[(0, (vGSource p0))], []⟩
   delta acwToSource
   refine so ?_
   let a0 : St := ⟨[(2, (.ptr 2 0)), (1, (.ptr 1 0)), (0, (vGSource p0))], [(2, [(vS []), (vS []), (.nil 10)]), (1, bGSource p0)]⟩
   refine st 2 a0 (nx (so ?_))
   let a1 : St := ⟨(3, (.ptr 3 0)) :: a0.env, [(3, [(vS []), (vS []), (.nil 10)]), (2, [(vS []), (vS []), (.nil 10)]), (1, bGSource p0)]⟩
   refine st 1 a1 (nx (so ?_))
   let a2 : St := ⟨(6, (.ptr 3 0)) :: (5, (vS p0.table)) :: (4, (.ptr 1 0)) :: a1.env, [(3, [(vS p0.table), (vS []), (.nil 10)]), (2, [(vS []), (vS []), (.nil 10)]), (1, bGSource p0)]⟩
   refine st 4 a2 (nx (so ?_))
   let a3 : St := ⟨(9, (.ptr 3 1)) :: (8, (vS p0.as_)) :: (7, (.ptr 1 1)) :: a2.env, [(3, [(vS p0.table), (vS p0.as_), (.nil 10)]), (2, [(vS []), (vS []), (.nil 10)]), (1, bGSource p0)]⟩
   refine st 4 a3 (nx (so ?_))
   let a4 : St := a3.p [(11, (.d (.sl 10 (p0.on_.map cGExpr)))), (10, (.ptr 1 2))]
   refine st 2 a4 (cs h (OK_wToExprS p0.on_) fun y1 h => ?_)
   let a5 : St := ⟨(13, (.ptr 3 2)) :: (12, (.d (.sl 10 (y1.map cGExpr)))) :: a4.env, [(3, [(vS p0.table), (vS p0.as_), (.d (.sl 10 (y1.map cGExpr)))]), (2, [(vS []), (vS []), (.nil 10)]), (1, bGSource p0)]⟩
   refine st 2 a5 (nx (so ?_))
   let a6 : St := ⟨(14, (vGSource (GSource.mk p0.table p0.as_ y1))) :: a5.env, [(3, [(vS p0.table), (vS p0.as_), (.d (.sl 10 (y1.map cGExpr)))]), (2, bGSource (GSource.mk p0.table p0.as_ y1)), (1, bGSource p0)]⟩
   refine st 2 a6 (nx (ri ?_))
   injection h with h; subst h
   exact r1 (v := (vGSource (GSource.mk p0.table p0.as_ y1)))
 · intro F_wToExprS_L0 OK_wToExprS_L0 p0 r h
   refine aof trwToExprS ?_
   show avc Tryz.prog acwToExprS (qwToExprS _) ⟨[(0, (.d (.sl 10 (p0.map cGExpr))))], []⟩
   delta acwToExprS
   refine so ?_
   let a0 : St := ⟨[(2, (.nil 10)), (0, (.d (.sl 10 (p0.map cGExpr))))], []⟩
   refine st 1 a0 (nx (so ?_))
   let a1 : St := a0.p [(5, (.d (.sl 10 (p0.map cGExpr))))]
   refine st 1 a1 (ps (vI (ln p0)) (vln (sz := 10) (l := p0) (f := cGExpr)) ?_)
   refine mks_step (k := .i64) (k' := .i64) (z := ((GExpr.mk 0 0 false (GValue.mk 0 0 []) [] [] ([] : List GExpr) ([] : List GQuery)) : GExpr)) (f := cGExpr) (S' := fun y => ⟨(7, (.msl 7 10 0 y.length y.length)) :: (6, (vI (ln p0))) :: a1.env, [(7, rowsV (y.map cGExpr))]⟩) h (by kernel_rfl) (by kernel_rfl) (by kernel_rfl) (by kernel_rfl) (by kernel_rfl) (fun y => by kernel_rfl) ?_
   clear h; intro y1 h
   let a2 : St := ⟨(3, (.msl 7 10 0 y1.length y1.length)) :: (7, (.msl 7 10 0 y1.length y1.length)) :: (6, (vI (ln p0))) :: a1.env, [(7, rowsV (y1.map cGExpr))]⟩
   refine st 1 a2 (nx (si (so ?_)))
   let a3 : St := a2.p [(4, (vI 0))]
   exact st 1 a3 (nx (bi (loop_go (s' := stwToExprS_L0 p0 0 y1) (wr [] (es (es (es er_nil))) (br_rows (by kernel_rfl) br_nil)) (OK_wToExprS_L0 p0 0 y1 _ h))))
 · intro F_wToExprS_L0 F_wToExpr OK_wToExprS_L0 OK_wToExpr p0 x4 b7_0 r h
   delta acwToExprS_L0
   refine loop_unroll (si (so ?_))
   let a4 : St := (stwToExprS_L0 p0 x4 b7_0).p [(9, (.d (.sl 10 (p0.map cGExpr)))), (8, (vI x4))]
   refine st 2 a4 (ps (vI (ln p0)) (vln (sz := 10) (l := p0) (f := cGExpr)) ?_)
   let a5 : St := a4.p [(11, (vB (decide (x4 < (ln p0))))), (10, (vI (ln p0)))]
   refine st 1 a5 (nx ?_)
   refine cd h (fun h => ?_) fun h => ?_
   refine ki (xi (si (bi (oi ?_))))
   let a6 : St := a5.p [(17, (vI x4)), (16, (.d (.sl 10 (p0.map cGExpr)))), (15, (vI x4)), (14, (.msl 7 10 0 b7_0.length b7_0.length))]
   refine st 4 a6 (vs (fun (y : GExpr) => (.rp (oGExpr y))) h (fun y hy => via (l := p0) (f := cGExpr) (g := oGExpr) (k := .i64) hy cGExpr_eq) fun y2 h => ?_)
   let a7 : St := a6.p [(19, (vGExpr y2)), (18, (.rp (oGExpr y2)))]
   refine st 1 a7 (cs h (OK_wToExpr y2) fun y3 h => (vs (fun (y : GExpr) => (.ptr 7 ((0 + (x4).toNat) * 10))) h (fun y hy => vop_iaE (l := b7_0) (k := .i64) hy (by kernel_rfl) (by kernel_rfl) (by kernel_rfl)) fun y4 h => ?_))
   refine sti_step (b := 7) (i := x4) (l := b7_0) (v := y3) (f := cGExpr) (u := (vGExpr y3)) (T := fun y m => ⟨[(21, (.ptr 7 ((0 + (x4).toNat) * 10))), (20, (vGExpr y3)), (19, (vGExpr y2)), (18, (.rp (oGExpr y2))), (17, (vI x4)), (16, (.d (.sl 10 (p0.map cGExpr)))), (15, (vI x4)), (14, (.msl 7 10 0 m m)), (11, (vB (decide (x4 < (ln p0))))), (10, (vI (ln p0))), (9, (.d (.sl 10 (p0.map cGExpr)))), (8, (vI x4)), (0, (.d (.sl 10 (p0.map cGExpr)))), (3, (.msl 7 10 0 m m)), (4, (vI x4))], [(7, rowsV (y.map cGExpr))]⟩) h (by kernel_rfl) (by kernel_rfl) (by kernel_rfl) (congrArg (List.map V.d) (cGExpr_eq y3).symm) (fun y => (congrArg List.length (cGExpr_eq y)).trans rfl) (by kernel_rfl) (fun y => by kernel_rfl) ?_
   clear h; intro y5 h
   refine ni (bn (xi (oi ?_)))
   let a8 : St := ⟨[(4, (vI (IntKind.wrap .i64 (x4 + 1)))), (13, (vI (IntKind.wrap .i64 (x4 + 1)))), (12, (vI x4)), (21, (.ptr 7 ((0 + (x4).toNat) * 10))), (20, (vGExpr y3)), (19, (vGExpr y2)), (18, (.rp (oGExpr y2))), (17, (vI x4)), (16, (.d (.sl 10 (p0.map cGExpr)))), (15, (vI x4)), (14, (.msl 7 10 0 y5.length y5.length)), (11, (vB (decide (x4 < (ln p0))))), (10, (vI (ln p0))), (9, (.d (.sl 10 (p0.map cGExpr)))), (8, (vI x4)), (0, (.d (.sl 10 (p0.map cGExpr)))), (3, (.msl 7 10 0 y5.length y5.length)), (4, (vI x4))], [(7, rowsV (y5.map cGExpr))]⟩
   exact st 3 a8 (ni (loop_back (s' := stwToExprS_L0 p0 (IntKind.wrap .i64 (x4 + 1)) y5) (wr [] (es (es (es er_nil))) (br_rows (by kernel_rfl) br_nil)) (OK_wToExprS_L0 p0 (IntKind.wrap .i64 (x4 + 1)) y5 _ h)))
   refine ei (te (te (bh (xi (so ?_)))))
   let a9 : St := a5.p [(2, (.msl 7 10 0 b7_0.length b7_0.length)), (22, (.msl 7 10 0 b7_0.length b7_0.length))]
   refine st 2 a9 (nx (ret_frz (n := 7) (sz := 10) (l := b7_0) (f := cGExpr) (s' := ⟨[(2, (.d (.sl 10 (b7_0.map cGExpr))))], []⟩) (by decide) (fun y => (congrArg List.length (cGExpr_eq y)).trans rfl) (by kernel_rfl) (⟨.inr ⟨b7_0.length, b7_0.length, by kernel_rfl, lms b7_0 _, by kernel_rfl⟩, trivial⟩) (trivial) (ri ?_)))
   injection h with h; subst h
   exact r1 (v := (.d (.sl 10 (b7_0.map cGExpr))))
 · intro F_wToExprS F_wToQueryS OK_wToExprS OK_wToQueryS p0 r h
   refine aof trwToExpr ?_
   show avc Tryz.prog acwToExpr (qwToExpr _) ⟨[(0, (vGExpr p0))], []⟩
   delta acwToExpr
   refine so ?_
   let a0 : St := ⟨[(2, (.ptr 2 0)), (1, (.ptr 1 0)), (0, (vGExpr p0))], [(2, [(vI 0), (vI 0), (vB false), (vI 0), (vI 0), (vS []), (vS []), (vS []), (.nil 10), (.nil 6)]), (1, bGExpr p0)]⟩
   refine st 2 a0 (nx (so ?_))
   let a1 : St := ⟨(3, (.ptr 3 0)) :: a0.env, [(3, [(vI 0), (vI 0), (vB false), (vI 0), (vI 0), (vS []), (vS []), (vS []), (.nil 10), (.nil 6)]), (2, [(vI 0), (vI 0), (vB false), (vI 0), (vI 0), (vS []), (vS []), (vS []), (.nil 10), (.nil 6)]), (1, bGExpr p0)]⟩
   refine st 1 a1 (nx (so ?_))
   let a2 : St := ⟨(6, (.ptr 3 0)) :: (5, (vI p0.kind)) :: (4, (.ptr 1 0)) :: a1.env, [(3, [(vI p0.kind), (vI 0), (vB false), (vI 0), (vI 0), (vS []), (vS []), (vS []), (.nil 10), (.nil 6)]), (2, [(vI 0), (vI 0), (vB false), (vI 0), (vI 0), (vS []), (vS []), (vS []), (.nil 10), (.nil 6)]), (1, bGExpr p0)]⟩
   refine st 4 a2 (nx (so ?_))
   let a3 : St := ⟨(9, (.ptr 3 1)) :: (8, (vI p0.op)) :: (7, (.ptr 1 1)) :: a2.env, [(3, [(vI p0.kind), (vI p0.op), (vB false), (vI 0), (vI 0), (vS []), (vS []), (vS []), (.nil 10), (.nil 6)]), (2, [(vI 0), (vI 0), (vB false), (vI 0), (vI 0), (vS []), (vS []), (vS []), (.nil 10), (.nil 6)]), (1, bGExpr p0)]⟩
   refine st 4 a3 (nx (so ?_))
   let a4 : St := ⟨(12, (.ptr 3 2)) :: (11, (vB p0.not_)) :: (10, (.ptr 1 2)) :: a3.env, [(3, [(vI p0.kind), (vI p0.op), (vB p0.not_), (vI 0), (vI 0), (vS []), (vS []), (vS []), (.nil 10), (.nil 6)]), (2, [(vI 0), (vI 0), (vB false), (vI 0), (vI 0), (vS []), (vS []), (vS []), (.nil 10), (.nil 6)]), (1, bGExpr p0)]⟩
   refine st 4 a4 (nx (so ?_))
   let a5 : St := a4.p [(14, (vGValue p0.value)), (13, (.ptr 1 3))]
   refine st 2 a5 (cs h (OK_wToValue p0.value) fun y1 h => ?_)
   let a6 : St := ⟨(16, (.ptr 3 3)) :: (15, (vGValue y1)) :: a5.env, [(3, [(vI p0.kind), (vI p0.op), (vB p0.not_), (vI y1.kind), (vI y1.num), (vS y1.text), (vS []), (vS []), (.nil 10), (.nil 6)]), (2, [(vI 0), (vI 0), (vB false), (vI 0), (vI 0), (vS []), (vS []), (vS []), (.nil 10), (.nil 6)]), (1, bGExpr p0)]⟩
   refine st 2 a6 (nx (so ?_))
   let a7 : St := ⟨(19, (.ptr 3 6)) :: (18, (vS p0.qual)) :: (17, (.ptr 1 6)) :: a6.env, [(3, [(vI p0.kind), (vI p0.op), (vB p0.not_), (vI y1.kind), (vI y1.num), (vS y1.text), (vS p0.qual), (vS []), (.nil 10), (.nil 6)]), (2, [(vI 0), (vI 0), (vB false), (vI 0), (vI 0), (vS []), (vS []), (vS []), (.nil 10), (.nil 6)]), (1, bGExpr p0)]⟩
   refine st 4 a7 (nx (so ?_))
   let a8 : St := ⟨(22, (.ptr 3 7)) :: (21, (vS p0.name)) :: (20, (.ptr 1 7)) :: a7.env, [(3, [(vI p0.kind), (vI p0.op), (vB p0.not_), (vI y1.kind), (vI y1.num), (vS y1.text), (vS p0.qual), (vS p0.name), (.nil 10), (.nil 6)]), (2, [(vI 0), (vI 0), (vB false), (vI 0), (vI 0), (vS []), (vS []), (vS []), (.nil 10), (.nil 6)]), (1, bGExpr p0)]⟩
   refine st 4 a8 (nx (so ?_))
   let a9 : St := a8.p [(24, (.d (.sl 10 (p0.kids.map cGExpr)))), (23, (.ptr 1 8))]
   refine st 2 a9 (cs h (OK_wToExprS p0.kids) fun y2 h => ?_)
   let a10 : St := ⟨(26, (.ptr 3 8)) :: (25, (.d (.sl 10 (y2.map cGExpr)))) :: a9.env, [(3, [(vI p0.kind), (vI p0.op), (vB p0.not_), (vI y1.kind), (vI y1.num), (vS y1.text), (vS p0.qual), (vS p0.name), (.d (.sl 10 (y2.map cGExpr))), (.nil 6)]), (2, [(vI 0), (vI 0), (vB false), (vI 0), (vI 0), (vS []), (vS []), (vS []), (.nil 10), (.nil 6)]), (1, bGExpr p0)]⟩
   refine st 2 a10 (nx (so ?_))
   let a11 : St := a10.p [(28, (.d (.sl 6 (p0.sub.map cGQuery)))), (27, (.ptr 1 9))]
   refine st 2 a11 (cs h (OK_wToQueryS p0.sub) fun y3 h => ?_)
   let a12 : St := ⟨(30, (.ptr 3 9)) :: (29, (.d (.sl 6 (y3.map cGQuery)))) :: a11.env, [(3, [(vI p0.kind), (vI p0.op), (vB p0.not_), (vI y1.kind), (vI y1.num), (vS y1.text), (vS p0.qual), (vS p0.name), (.d (.sl 10 (y2.map cGExpr))), (.d (.sl 6 (y3.map cGQuery)))]), (2, [(vI 0), (vI 0), (vB false), (vI 0), (vI 0), (vS []), (vS []), (vS []), (.nil 10), (.nil 6)]), (1, bGExpr p0)]⟩
   refine st 2 a12 (nx (so ?_))
   let a13 : St := ⟨(31, (vGExpr (GExpr.mk p0.kind p0.op p0.not_ y1 p0.qual p0.name y2 y3))) :: a12.env, [(3, [(vI p0.kind), (vI p0.op), (vB p0.not_), (vI y1.kind), (vI y1.num), (vS y1.text), (vS p0.qual), (vS p0.name), (.d (.sl 10 (y2.map cGExpr))), (.d (.sl 6 (y3.map cGQuery)))]), (2, bGExpr (GExpr.mk p0.kind p0.op p0.not_ y1 p0.qual p0.name y2 y3)), (1, bGExpr p0)]⟩
   refine st 2 a13 (nx (ri ?_))
   injection h with h; subst h
   exact r1 (v := (vGExpr (GExpr.mk p0.kind p0.op p0.not_ y1 p0.qual p0.name y2 y3)))
 · intro F_wToQueryS_L0 OK_wToQueryS_L0 p0 r h
   refine aof trwToQueryS ?_
   show avc Tryz.prog acwToQueryS (qwToQueryS _) ⟨[(0, (.d (.sl 6 (p0.map cGQuery))))], []⟩
   delta acwToQueryS
   refine so ?_
   let a0 : St := ⟨[(2, (.nil 6)), (0, (.d (.sl 6 (p0.map cGQuery))))], []⟩
   refine st 1 a0 (nx (so ?_))
   let a1 : St := a0.p [(5, (.d (.sl 6 (p0.map cGQuery))))]
   refine st 1 a1 (ps (vI (ln p0)) (vln (sz := 6) (l := p0) (f := cGQuery)) ?_)
   refine mks_step (k := .i64) (k' := .i64) (z := ((GQuery.mk false ([] : List GItem) ([] : List GSource) ([] : List GExpr) ([] : List GSortKey) 0) : GQuery)) (f := cGQuery) (S' := fun y => ⟨(7, (.msl 7 6 0 y.length y.length)) :: (6, (vI (ln p0))) :: a1.env, [(7, rowsV (y.map cGQuery))]⟩) h (by kernel_rfl) (by kernel_rfl) (by kernel_rfl) (by kernel_rfl) (by kernel_rfl) (fun y => by kernel_rfl) ?_
   clear h; intro y1 h
   let a2 : St := ⟨(3, (.msl 7 6 0 y1.length y1.length)) :: (7, (.msl 7 6 0 y1.length y1.length)) :: (6, (vI (ln p0))) :: a1.env, [(7, rowsV (y1.map cGQuery))]⟩
   refine st 1 a2 (nx (si (so ?_)))
   let a3 : St := a2.p [(4, (vI 0))]
   exact st 1 a3 (nx (bi (loop_go (s' := stwToQueryS_L0 p0 0 y1) (wr [] (es (es (es er_nil))) (br_rows (by kernel_rfl) br_nil)) (OK_wToQueryS_L0 p0 0 y1 _ h))))
 · intro F_wToQueryS_L0 F_wToQuery OK_wToQueryS_L0 OK_wToQuery p0 x4 b7_0 r h
   delta acwToQueryS_L0
   refine loop_unroll (si (so ?_))
   let a4 : St := (stwToQueryS_L0 p0 x4 b7_0).p [(9, (.d (.sl 6 (p0.map cGQuery)))), (8, (vI x4))]
   refine st 2 a4 (ps (vI (ln p0)) (vln (sz := 6) (l := p0) (f := cGQuery)) ?_)
   let a5 : St := a4.p [(11, (vB (decide (x4 < (ln p0))))), (10, (vI (ln p0)))]
   refine st 1 a5 (nx ?_)
   refine cd h (fun h => ?_) fun h => ?_
   refine ki (xi (si (bi (oi ?_))))
   let a6 : St := a5.p [(17, (vI x4)), (16, (.d (.sl 6 (p0.map cGQuery)))), (15, (vI x4)), (14, (.msl 7 6 0 b7_0.length b7_0.length))]
   refine st 4 a6 (vs (fun (y : GQuery) => (.rp (oGQuery y))) h (fun y hy => via (l := p0) (f := cGQuery) (g := oGQuery) (k := .i64) hy cGQuery_eq) fun y2 h => ?_)
   let a7 : St := a6.p [(19, (vGQuery y2)), (18, (.rp (oGQuery y2)))]
   refine st 1 a7 (cs h (OK_wToQuery y2) fun y3 h => (vs (fun (y : GQuery) => (.ptr 7 ((0 + (x4).toNat) * 6))) h (fun y hy => vop_iaE (l := b7_0) (k := .i64) hy (by kernel_rfl) (by kernel_rfl) (by kernel_rfl)) fun y4 h => ?_))
   refine sti_step (b := 7) (i := x4) (l := b7_0) (v := y3) (f := cGQuery) (u := (vGQuery y3)) (T := fun y m => ⟨[(21, (.ptr 7 ((0 + (x4).toNat) * 6))), (20, (vGQuery y3)), (19, (vGQuery y2)), (18, (.rp (oGQuery y2))), (17, (vI x4)), (16, (.d (.sl 6 (p0.map cGQuery)))), (15, (vI x4)), (14, (.msl 7 6 0 m m)), (11, (vB (decide (x4 < (ln p0))))), (10, (vI (ln p0))), (9, (.d (.sl 6 (p0.map cGQuery)))), (8, (vI x4)), (0, (.d (.sl 6 (p0.map cGQuery)))), (3, (.msl 7 6 0 m m)), (4, (vI x4))], [(7, rowsV (y.map cGQuery))]⟩) h (by kernel_rfl) (by kernel_rfl) (by kernel_rfl) (congrArg (List.map V.d) (cGQuery_eq y3).symm) (fun y => (congrArg List.length (cGQuery_eq y)).trans rfl) (by kernel_rfl) (fun y => by kernel_rfl) ?_
   clear h; intro y5 h
   refine ni (bn (xi (oi ?_)))
   let a8 : St := ⟨[(4, (vI (IntKind.wrap .i64 (x4 + 1)))), (13, (vI (IntKind.wrap .i64 (x4 + 1)))), (12, (vI x4)), (21, (.ptr 7 ((0 + (x4).toNat) * 6))), (20, (vGQuery y3)), (19, (vGQuery y2)), (18, (.rp (oGQuery y2))), (17, (vI x4)), (16, (.d (.sl 6 (p0.map cGQuery)))), (15, (vI x4)), (14, (.msl 7 6 0 y5.length y5.length)), (11, (vB (decide (x4 < (ln p0))))), (10, (vI (ln p0))), (9, (.d (.sl 6 (p0.map cGQuery)))), (8, (vI x4)), (0, (.d (.sl 6 (p0.map cGQuery)))), (3, (.msl 7 6 0 y5.length y5.length)), (4, (vI x4))], [(7, rowsV (y5.map cGQuery))]⟩
   exact st 3 a8 (ni (loop_back (s' := stwToQueryS_L0 p0 (IntKind.wrap .i64 (x4 + 1)) y5) (wr [] (es (es (es er_nil))) (br_rows (by kernel_rfl) br_nil)) (OK_wToQueryS_L0 p0 (IntKind.wrap .i64 (x4 + 1)) y5 _ h)))
   refine ei (te (te (bh (xi (so ?_)))))
   let a9 : St := a5.p [(2, (.msl 7 6 0 b7_0.length b7_0.length)), (22, (.msl 7 6 0 b7_0.length b7_0.length))]
   refine st 2 a9 (nx (ret_frz (n := 7) (sz := 6) (l := b7_0) (f := cGQuery) (s' := ⟨[(2, (.d (.sl 6 (b7_0.map cGQuery))))], []⟩) (by decide) (fun y => (congrArg List.length (cGQuery_eq y)).trans rfl) (by kernel_rfl) (⟨.inr ⟨b7_0.length, b7_0.length, by kernel_rfl, lms b7_0 _, by kernel_rfl⟩, trivial⟩) (trivial) (ri ?_)))
   injection h with h; subst h
   exact r1 (v := (.d (.sl 6 (b7_0.map cGQuery))))
 · intro F_wToExprS F_wToSortKeyS F_wToSourceS F_wToItemS OK_wToExprS OK_wToSortKeyS OK_wToSourceS OK_wToItemS p0 r h
   refine aof trwToQuery ?_
   show avc Tryz.prog acwToQuery (qwToQuery _) ⟨[(0, (vGQuery p0))], []⟩
   delta acwToQuery
   refine so ?_
   let a0 : St := ⟨[(2, (.ptr 2 0)), (1, (.ptr 1 0)), (0, (vGQuery p0))], [(2, [(vB false), (.nil 13), (.nil 3), (.nil 10), (.nil 11), (vI 0)]), (1, bGQuery p0)]⟩
   refine st 2 a0 (nx (so ?_))
   let a1 : St := ⟨(3, (.ptr 3 0)) :: a0.env, [(3, [(vB false), (.nil 13), (.nil 3), (.nil 10), (.nil 11), (vI 0)]), (2, [(vB false), (.nil 13), (.nil 3), (.nil 10), (.nil 11), (vI 0)]), (1, bGQuery p0)]⟩
   refine st 1 a1 (nx (so ?_))
   let a2 : St := ⟨(6, (.ptr 3 0)) :: (5, (vB p0.distinct)) :: (4, (.ptr 1 0)) :: a1.env, [(3, [(vB p0.distinct), (.nil 13), (.nil 3), (.nil 10), (.nil 11), (vI 0)]), (2, [(vB false), (.nil 13), (.nil 3), (.nil 10), (.nil 11), (vI 0)]), (1, bGQuery p0)]⟩
   refine st 4 a2 (nx (so ?_))
   let a3 : St := a2.p [(8, (.d (.sl 13 (p0.items.map cGItem)))), (7, (.ptr 1 1))]
   refine st 2 a3 (cs h (OK_wToItemS p0.items) fun y1 h => ?_)
   let a4 : St := ⟨(10, (.ptr 3 1)) :: (9, (.d (.sl 13 (y1.map cGItem)))) :: a3.env, [(3, [(vB p0.distinct), (.d (.sl 13 (y1.map cGItem))), (.nil 3), (.nil 10), (.nil 11), (vI 0)]), (2, [(vB false), (.nil 13), (.nil 3), (.nil 10), (.nil 11), (vI 0)]), (1, bGQuery p0)]⟩
   refine st 2 a4 (nx (so ?_))
   let a5 : St := a4.p [(12, (.d (.sl 3 (p0.from_.map cGSource)))), (11, (.ptr 1 2))]
   refine st 2 a5 (cs h (OK_wToSourceS p0.from_) fun y2 h => ?_)
   let a6 : St := ⟨(14, (.ptr 3 2)) :: (13, (.d (.sl 3 (y2.map cGSource)))) :: a5.env, [(3, [(vB p0.distinct), (.d (.sl 13 (y1.map cGItem))), (.d (.sl 3 (y2.map cGSource))), (.nil 10), (.nil 11), (vI 0)]), (2, [(vB false), (.nil 13), (.nil 3), (.nil 10), (.nil 11), (vI 0)]), (1, bGQuery p0)]⟩
   refine st 2 a6 (nx (so ?_))
   let a7 : St := a6.p [(16, (.d (.sl 10 (p0.where_.map cGExpr)))), (15, (.ptr 1 3))]
   refine st 2 a7 (cs h (OK_wToExprS p0.where_) fun y3 h => ?_)
   let a8 : St := ⟨(18, (.ptr 3 3)) :: (17, (.d (.sl 10 (y3.map cGExpr)))) :: a7.env, [(3, [(vB p0.distinct), (.d (.sl 13 (y1.map cGItem))), (.d (.sl 3 (y2.map cGSource))), (.d (.sl 10 (y3.map cGExpr))), (.nil 11), (vI 0)]), (2, [(vB false), (.nil 13), (.nil 3), (.nil 10), (.nil 11), (vI 0)]), (1, bGQuery p0)]⟩
   refine st 2 a8 (nx (so ?_))
   let a9 : St := a8.p [(20, (.d (.sl 11 (p0.order.map cGSortKey)))), (19, (.ptr 1 4))]
   refine st 2 a9 (cs h (OK_wToSortKeyS p0.order) fun y4 h => ?_)
   let a10 : St := ⟨(22, (.ptr 3 4)) :: (21, (.d (.sl 11 (y4.map cGSortKey)))) :: a9.env, [(3, [(vB p0.distinct), (.d (.sl 13 (y1.map cGItem))), (.d (.sl 3 (y2.map cGSource))), (.d (.sl 10 (y3.map cGExpr))), (.d (.sl 11 (y4.map cGSortKey))), (vI 0)]), (2, [(vB false), (.nil 13), (.nil 3), (.nil 10), (.nil 11), (vI 0)]), (1, bGQuery p0)]⟩
   refine st 2 a10 (nx (so ?_))
   let a11 : St := ⟨(25, (.ptr 3 5)) :: (24, (vI p0.limit)) :: (23, (.ptr 1 5)) :: a10.env, [(3, [(vB p0.distinct), (.d (.sl 13 (y1.map cGItem))), (.d (.sl 3 (y2.map cGSource))), (.d (.sl 10 (y3.map cGExpr))), (.d (.sl 11 (y4.map cGSortKey))), (vI p0.limit)]), (2, [(vB false), (.nil 13), (.nil 3), (.nil 10), (.nil 11), (vI 0)]), (1, bGQuery p0)]⟩
   refine st 4 a11 (nx (so ?_))
   let a12 : St := ⟨(26, (vGQuery (GQuery.mk p0.distinct y1 y2 y3 y4 p0.limit))) :: a11.env, [(3, [(vB p0.distinct), (.d (.sl 13 (y1.map cGItem))), (.d (.sl 3 (y2.map cGSource))), (.d (.sl 10 (y3.map cGExpr))), (.d (.sl 11 (y4.map cGSortKey))), (vI p0.limit)]), (2, bGQuery (GQuery.mk p0.distinct y1 y2 y3 y4 p0.limit)), (1, bGQuery p0)]⟩
   refine st 2 a12 (nx (ri ?_))
   injection h with h; subst h
   exact r1 (v := (vGQuery (GQuery.mk p0.distinct y1 y2 y3 y4 p0.limit)))
 · intro F_wToSortKeyS_L0 OK_wToSortKeyS_L0 p0 r h
   refine aof trwToSortKeyS ?_
   show avc Tryz.prog acwToSortKeyS (qwToSortKeyS _) ⟨[(0, (.d (.sl 11 (p0.map cGSortKey))))], []⟩
   delta acwToSortKeyS
   refine so ?_
   let a0 : St := ⟨[(2, (.nil 11)), (0, (.d (.sl 11 (p0.map cGSortKey))))], []⟩
   refine st 1 a0 (nx (so ?_))
   let a1 : St := a0.p [(5, (.d (.sl 11 (p0.map cGSortKey))))]
   refine st 1 a1 (ps (vI (ln p0)) (vln (sz := 11) (l := p0) (f := cGSortKey)) ?_)
   refine mks_step (k := .i64) (k' := .i64) (z := ((GSortKey.mk (GExpr.mk 0 0 false (GValue.mk 0 0 []) [] [] ([] : List GExpr) ([] : List GQuery)) false) : GSortKey)) (f := cGSortKey) (S' := fun y => ⟨(7, (.msl 7 11 0 y.length y.length)) :: (6, (vI (ln p0))) :: a1.env, [(7, rowsV (y.map cGSortKey))]⟩) h (by kernel_rfl) (by kernel_rfl) (by kernel_rfl) (by kernel_rfl) (by kernel_rfl) (fun y => by kernel_rfl) ?_
   clear h; intro y1 h
   let a2 : St := ⟨(3, (.msl 7 11 0 y1.length y1.length)) :: (7, (.msl 7 11 0 y1.length y1.length)) :: (6, (vI (ln p0))) :: a1.env, [(7, rowsV (y1.map cGSortKey))]⟩
   refine st 1 a2 (nx (si (so ?_)))
   let a3 : St := a2.p [(4, (vI 0))]
   exact st 1 a3 (nx (bi (loop_go (s' := stwToSortKeyS_L0 p0 0 y1) (wr [] (es (es (es er_nil))) (br_rows (by kernel_rfl) br_nil)) (OK_wToSortKeyS_L0 p0 0 y1 _ h))))
 · intro F_wToSortKeyS_L0 F_wToSortKey OK_wToSortKeyS_L0 OK_wToSortKey p0 x4 b7_0 r h
   delta acwToSortKeyS_L0
   refine loop_unroll (si (so ?_))
   let a4 : St := (stwToSortKeyS_L0 p0 x4 b7_0).p [(9, (.d (.sl 11 (p0.map cGSortKey)))), (8, (vI x4))]
   refine st 2 a4 (ps (vI (ln p0)) (vln (sz := 11) (l := p0) (f := cGSortKey)) ?_)
   let a5 : St := a4.p [(11, (vB (decide (x4 < (ln p0))))), (10, (vI (ln p0)))]
   refine st 1 a5 (nx ?_)
   refine cd h (fun h => ?_) fun h => ?_
   refine ki (xi (si (bi (oi ?_))))
   let a6 : St := a5.p [(17, (vI x4)), (16, (.d (.sl 11 (p0.map cGSortKey)))), (15, (vI x4)), (14, (.msl 7 11 0 b7_0.length b7_0.length))]
   refine st 4 a6 (vs (fun (y : GSortKey) => (.rp (oGSortKey y))) h (fun y hy => via (l := p0) (f := cGSortKey) (g := oGSortKey) (k := .i64) hy cGSortKey_eq) fun y2 h => ?_)
   let a7 : St := a6.p [(19, (vGSortKey y2)), (18, (.rp (oGSortKey y2)))]
   refine st 1 a7 (cs h (OK_wToSortKey y2) fun y3 h => (vs (fun (y : GSortKey) => (.ptr 7 ((0 + (x4).toNat) * 11))) h (fun y hy => vop_iaE (l := b7_0) (k := .i64) hy (by kernel_rfl) (by kernel_rfl) (by kernel_rfl)) fun y4 h => ?_))
   refine sti_step (b := 7) (i := x4) (l := b7_0) (v := y3) (f := cGSortKey) (u := (vGSortKey y3)) (T := fun y m => ⟨[(21, (.ptr 7 ((0 + (x4).toNat) * 11))), (20, (vGSortKey y3)), (19, (vGSortKey y2)), (18, (.rp (oGSortKey y2))), (17, (vI x4)), (16, (.d (.sl 11 (p0.map cGSortKey)))), (15, (vI x4)), (14, (.msl 7 11 0 m m)), (11, (vB (decide (x4 < (ln p0))))), (10, (vI (ln p0))), (9, (.d (.sl 11 (p0.map cGSortKey)))), (8, (vI x4)), (0, (.d (.sl 11 (p0.map cGSortKey)))), (3, (.msl 7 11 0 m m)), (4, (vI x4))], [(7, rowsV (y.map cGSortKey))]⟩) h (by kernel_rfl) (by kernel_rfl) (by kernel_rfl) (congrArg (List.map V.d) (cGSortKey_eq y3).symm) (fun y => (congrArg List.length (cGSortKey_eq y)).trans rfl) (by kernel_rfl) (fun y => by kernel_rfl) ?_
   clear h; intro y5 h
   refine ni (bn (xi (oi ?_)))
   let a8 : St := ⟨[(4, (vI (IntKind.wrap .i64 (x4 + 1)))), (13, (vI (IntKind.wrap .i64 (x4 + 1)))), (12, (vI x4)), (21, (.ptr 7 ((0 + (x4).toNat) * 11))), (20, (vGSortKey y3)), (19, (vGSortKey y2)), (18, (.rp (oGSortKey y2))), (17, (vI x4)), (16, (.d (.sl 11 (p0.map cGSortKey)))), (15, (vI x4)), (14, (.msl 7 11 0 y5.length y5.length)), (11, (vB (decide (x4 < (ln p0))))), (10, (vI (ln p0))), (9, (.d (.sl 11 (p0.map cGSortKey)))), (8, (vI x4)), (0, (.d (.sl 11 (p0.map cGSortKey)))), (3, (.msl 7 11 0 y5.length y5.length)), (4, (vI x4))], [(7, rowsV (y5.map cGSortKey))]⟩
   exact st 3 a8 (ni (loop_back (s' := stwToSortKeyS_L0 p0 (IntKind.wrap .i64 (x4 + 1)) y5) (wr [] (es (es (es er_nil))) (br_rows (by kernel_rfl) br_nil)) (OK_wToSortKeyS_L0 p0 (IntKind.wrap .i64 (x4 + 1)) y5 _ h)))
   refine ei (te (te (bh (xi (so ?_)))))
   let a9 : St := a5.p [(2, (.msl 7 11 0 b7_0.length b7_0.length)), (22, (.msl 7 11 0 b7_0.length b7_0.length))]
   refine st 2 a9 (nx (ret_frz (n := 7) (sz := 11) (l := b7_0) (f := cGSortKey) (s' := ⟨[(2, (.d (.sl 11 (b7_0.map cGSortKey))))], []⟩) (by decide) (fun y => (congrArg List.length (cGSortKey_eq y)).trans rfl) (by kernel_rfl) (⟨.inr ⟨b7_0.length, b7_0.length, by kernel_rfl, lms b7_0 _, by kernel_rfl⟩, trivial⟩) (trivial) (ri ?_)))
   injection h with h; subst h
   exact r1 (v := (.d (.sl 11 (b7_0.map cGSortKey))))
 · intro F_wToExpr OK_wToExpr p0 r h
   refine aof trwToSortKey ?_
   show avc Tryz.prog acwToSortKey (qwToSortKey _) ⟨[(0, (vGSortKey p0))], []⟩
   delta acwToSortKey
   refine so ?_
   let a0 : St := ⟨[(2, (.ptr 2 0)), (1, (.ptr 1 0)), (0, (vGSortKey p0))], [(2, [(vI 0), (vI 0), (vB false), (vI 0), (vI 0), (vS []), (vS []), (vS []), (.nil 10), (.nil 6), (vB false)]), (1, bGSortKey p0)]⟩
   refine st 2 a0 (nx (so ?_))
   let a1 : St := ⟨(3, (.ptr 3 0)) :: a0.env, [(3, [(vI 0), (vI 0), (vB false), (vI 0), (vI 0), (vS []), (vS []), (vS []), (.nil 10), (.nil 6), (vB false)]), (2, [(vI 0), (vI 0), (vB false), (vI 0), (vI 0), (vS []), (vS []), (vS []), (.nil 10), (.nil 6), (vB false)]), (1, bGSortKey p0)]⟩
   refine st 1 a1 (nx (so ?_))
   let a2 : St := a1.p [(5, (vGExpr p0.expr)), (4, (.ptr 1 0))]
   refine st 2 a2 (cs h (OK_wToExpr p0.expr) fun y1 h => ?_)
   let a3 : St := ⟨(7, (.ptr 3 0)) :: (6, (vGExpr y1)) :: a2.env, [(3, [(vI y1.kind), (vI y1.op), (vB y1.not_), (vI y1.value.kind), (vI y1.value.num), (vS y1.value.text), (vS y1.qual), (vS y1.name), (.d (.sl 10 (y1.kids.map cGExpr))), (.d (.sl 6 (y1.sub.map cGQuery))), (vB false)]), (2, [(vI 0), (vI 0), (vB false), (vI 0), (vI 0), (vS []), (vS []), (vS []), (.nil 10), (.nil 6), (vB false)]), (1, bGSortKey p0)]⟩
   refine st 2 a3 (nx (so ?_))
   let a4 : St := ⟨(10, (.ptr 3 10)) :: (9, (vB p0.desc)) :: (8, (.ptr 1 10)) :: a3.env, [(3, [(vI y1.kind), (vI y1.op), (vB y1.not_), (vI y1.value.kind), (vI y1.value.num), (vS y1.value.text), (vS y1.qual), (vS y1.name), (.d (.sl 10 (y1.kids.map cGExpr))), (.d (.sl 6 (y1.sub.map cGQuery))), (vB p0.desc)]), (2, [(vI 0), (vI 0), (vB false), (vI 0), (vI 0), (vS []), (vS []), (vS []), (.nil 10), (.nil 6), (vB false)]), (1, bGSortKey p0)]⟩
   refine st 4 a4 (nx (so ?_))
   let a5 : St := ⟨(11, (vGSortKey (GSortKey.mk y1 p0.desc))) :: a4.env, [(3, [(vI y1.kind), (vI y1.op), (vB y1.not_), (vI y1.value.kind), (vI y1.value.num), (vS y1.value.text), (vS y1.qual), (vS y1.name), (.d (.sl 10 (y1.kids.map cGExpr))), (.d (.sl 6 (y1.sub.map cGQuery))), (vB p0.desc)]), (2, bGSortKey (GSortKey.mk y1 p0.desc)), (1, bGSortKey p0)]⟩
   refine st 2 a5 (nx (ri ?_))
   injection h with h; subst h
   exact r1 (v := (vGSortKey (GSortKey.mk y1 p0.desc)))
 · intro F_wToSourceS_L0 OK_wToSourceS_L0 p0 r h
   refine aof trwToSourceS ?_
   show avc Tryz.prog acwToSourceS (qwToSourceS _) ⟨[(0, (.d (.sl 3 (p0.map cGSource))))], []⟩
   delta acwToSourceS
   refine so ?_
   let a0 : St := ⟨[(2, (.nil 3)), (0, (.d (.sl 3 (p0.map cGSource))))], []⟩
   refine st 1 a0 (nx (so ?_))
   let a1 : St := a0.p [(5, (.d (.sl 3 (p0.map cGSource))))]
   refine st 1 a1 (ps (vI (ln p0)) (vln (sz := 3) (l := p0) (f := cGSource)) ?_)
   refine mks_step (k := .i64) (k' := .i64) (z := ((GSource.mk [] [] ([] : List GExpr)) : GSource)) (f := cGSource) (S' := fun y => ⟨(7, (.msl 7 3 0 y.length y.length)) :: (6, (vI (ln p0))) :: a1.env, [(7, rowsV (y.map cGSource))]⟩) h (by kernel_rfl) (by kernel_rfl) (by kernel_rfl) (by kernel_rfl) (by kernel_rfl) (fun y => by kernel_rfl) ?_
   clear h; intro y1 h
   let a2 : St := ⟨(3, (.msl 7 3 0 y1.length y1.length)) :: (7, (.msl 7 3 0 y1.length y1.length)) :: (6, (vI (ln p0))) :: a1.env, [(7, rowsV (y1.map cGSource))]⟩
   refine st 1 a2 (nx (si (so ?_)))
   let a3 : St := a2.p [(4, (vI 0))]
   exact st 1 a3 (nx (bi (loop_go (s' := stwToSourceS_L0 p0 0 y1) (wr [] (es (es (es er_nil))) (br_rows (by kernel_rfl) br_nil)) (OK_wToSourceS_L0 p0 0 y1 _ h))))
 · intro F_wToSource F_wToSourceS_L0 OK_wToSource OK_wToSourceS_L0 p0 x4 b7_0 r h
   delta acwToSourceS_L0
   refine loop_unroll (si (so ?_))
   let a4 : St := (stwToSourceS_L0 p0 x4 b7_0).p [(9, (.d (.sl 3 (p0.map cGSource)))), (8, (vI x4))]
   refine st 2 a4 (ps (vI (ln p0)) (vln (sz := 3) (l := p0) (f := cGSource)) ?_)
   let a5 : St := a4.p [(11, (vB (decide (x4 < (ln p0))))), (10, (vI (ln p0)))]
   refine st 1 a5 (nx ?_)
   refine cd h (fun h => ?_) fun h => ?_
   refine ki (xi (si (bi (oi ?_))))
   let a6 : St := a5.p [(17, (vI x4)), (16, (.d (.sl 3 (p0.map cGSource)))), (15, (vI x4)), (14, (.msl 7 3 0 b7_0.length b7_0.length))]
   refine st 4 a6 (vs (fun (y : GSource) => (.rp (oGSource y))) h (fun y hy => via (l := p0) (f := cGSource) (g := oGSource) (k := .i64) hy cGSource_eq) fun y2 h => ?_)
   let a7 : St := a6.p [(19, (vGSource y2)), (18, (.rp (oGSource y2)))]
   refine st 1 a7 (cs h (OK_wToSource y2) fun y3 h => (vs (fun (y : GSource) => (.ptr 7 ((0 + (x4).toNat) * 3))) h (fun y hy => vop_iaE (l := b7_0) (k := .i64) hy (by kernel_rfl) (by kernel_rfl) (by kernel_rfl)) fun y4 h => ?_))
   refine sti_step (b := 7) (i := x4) (l := b7_0) (v := y3) (f := cGSource) (u := (vGSource y3)) (T := fun y m => ⟨[(21, (.ptr 7 ((0 + (x4).toNat) * 3))), (20, (vGSource y3)), (19, (vGSource y2)), (18, (.rp (oGSource y2))), (17, (vI x4)), (16, (.d (.sl 3 (p0.map cGSource)))), (15, (vI x4)), (14, (.msl 7 3 0 m m)), (11, (vB (decide (x4 < (ln p0))))), (10, (vI (ln p0))), (9, (.d (.sl 3 (p0.map cGSource)))), (8, (vI x4)), (0, (.d (.sl 3 (p0.map cGSource)))), (3, (.msl 7 3 0 m m)), (4, (vI x4))], [(7, rowsV (y.map cGSource))]⟩) h (by kernel_rfl) (by kernel_rfl) (by kernel_rfl) (congrArg (List.map V.d) (cGSource_eq y3).symm) (fun y => (congrArg List.length (cGSource_eq y)).trans rfl) (by kernel_rfl) (fun y => by kernel_rfl) ?_
   clear h; intro y5 h
   refine ni (bn (xi (oi ?_)))
   let a8 : St := ⟨[(4, (vI (IntKind.wrap .i64 (x4 + 1)))), (13, (vI (IntKind.wrap .i64 (x4 + 1)))), (12, (vI x4)), (21, (.ptr 7 ((0 + (x4).toNat) * 3))), (20, (vGSource y3)), (19, (vGSource y2)), (18, (.rp (oGSource y2))), (17, (vI x4)), (16, (.d (.sl 3 (p0.map cGSource)))), (15, (vI x4)), (14, (.msl 7 3 0 y5.length y5.length)), (11, (vB (decide (x4 < (ln p0))))), (10, (vI (ln p0))), (9, (.d (.sl 3 (p0.map cGSource)))), (8, (vI x4)), (0, (.d (.sl 3 (p0.map cGSource)))), (3, (.msl 7 3 0 y5.length y5.length)), (4, (vI x4))], [(7, rowsV (y5.map cGSource))]⟩
   exact st 3 a8 (ni (loop_back (s' := stwToSourceS_L0 p0 (IntKind.wrap .i64 (x4 + 1)) y5) (wr [] (es (es (es er_nil))) (br_rows (by kernel_rfl) br_nil)) (OK_wToSourceS_L0 p0 (IntKind.wrap .i64 (x4 + 1)) y5 _ h)))
   refine ei (te (te (bh (xi (so ?_)))))
   let a9 : St := a5.p [(2, (.msl 7 3 0 b7_0.length b7_0.length)), (22, (.msl 7 3 0 b7_0.length b7_0.length))]
   refine st 2 a9 (nx (ret_frz (n := 7) (sz := 3) (l := b7_0) (f := cGSource) (s' := ⟨[(2, (.d (.sl 3 (b7_0.map cGSource))))], []⟩) (by decide) (fun y => (congrArg List.length (cGSource_eq y)).trans rfl) (by kernel_rfl) (⟨.inr ⟨b7_0.length, b7_0.length, by kernel_rfl, lms b7_0 _, by kernel_rfl⟩, trivial⟩) (trivial) (ri ?_)))
   injection h with h; subst h
   exact r1 (v := (.d (.sl 3 (b7_0.map cGSource))))
 · intro F_wToItemS_L0 OK_wToItemS_L0 p0 r h
   refine aof trwToItemS ?_
   show avc Tryz.prog acwToItemS (qwToItemS _) ⟨[(0, (.d (.sl 13 (p0.map cGItem))))], []⟩
   delta acwToItemS
   refine so ?_
   let a0 : St := ⟨[(2, (.nil 13)), (0, (.d (.sl 13 (p0.map cGItem))))], []⟩
   refine st 1 a0 (nx (so ?_))
   let a1 : St := a0.p [(5, (.d (.sl 13 (p0.map cGItem))))]
   refine st 1 a1 (ps (vI (ln p0)) (vln (sz := 13) (l := p0) (f := cGItem)) ?_)
   refine mks_step (k := .i64) (k' := .i64) (z := ((GItem.mk false [] (GExpr.mk 0 0 false (GValue.mk 0 0 []) [] [] ([] : List GExpr) ([] : List GQuery)) []) : GItem)) (f := cGItem) (S' := fun y => ⟨(7, (.msl 7 13 0 y.length y.length)) :: (6, (vI (ln p0))) :: a1.env, [(7, rowsV (y.map cGItem))]⟩) h (by kernel_rfl) (by kernel_rfl) (by kernel_rfl) (by kernel_rfl) (by kernel_rfl) (fun y => by kernel_rfl) ?_
   clear h; intro y1 h
   let a2 : St := ⟨(3, (.msl 7 13 0 y1.length y1.length)) :: (7, (.msl 7 13 0 y1.length y1.length)) :: (6, (vI (ln p0))) :: a1.env, [(7, rowsV (y1.map cGItem))]⟩
   refine st 1 a2 (nx (si (so ?_)))
   let a3 : St := a2.p [(4, (vI 0))]
   exact st 1 a3 (nx (bi (loop_go (s' := stwToItemS_L0 p0 0 y1) (wr [] (es (es (es er_nil))) (br_rows (by kernel_rfl) br_nil)) (OK_wToItemS_L0 p0 0 y1 _ h))))
 · intro F_wToItemS_L0 F_wToItem OK_wToItemS_L0 OK_wToItem p0 x4 b7_0 r h
   delta acwToItemS_L0
   refine loop_unroll (si (so ?_))
   let a4 : St := (stwToItemS_L0 p0 x4 b7_0).p [(9, (.d (.sl 13 (p0.map cGItem)))), (8, (vI x4))]
   refine st 2 a4 (ps (vI (ln p0)) (vln (sz := 13) (l := p0) (f := cGItem)) ?_)
   let a5 : St := a4.p [(11, (vB (decide (x4 < (ln p0))))), (10, (vI (ln p0)))]
   refine st 1 a5 (nx ?_)
   refine cd h (fun h => ?_) fun h => ?_
   refine ki (xi (si (bi (oi ?_))))
   let a6 : St := a5.p [(17, (vI x4)), (16, (.d (.sl 13 (p0.map cGItem)))), (15, (vI x4)), (14, (.msl 7 13 0 b7_0.length b7_0.length))]
   refine st 4 a6 (vs (fun (y : GItem) => (.rp (oGItem y))) h (fun y hy => via (l := p0) (f := cGItem) (g := oGItem) (k := .i64) hy cGItem_eq) fun y2 h => ?_)
   let a7 : St := a6.p [(19, (vGItem y2)), (18, (.rp (oGItem y2)))]
   refine st 1 a7 (cs h (OK_wToItem y2) fun y3 h => (vs (fun (y : GItem) => (.ptr 7 ((0 + (x4).toNat) * 13))) h (fun y hy => vop_iaE (l := b7_0) (k := .i64) hy (by kernel_rfl) (by kernel_rfl) (by kernel_rfl)) fun y4 h => ?_))
   refine sti_step (b := 7) (i := x4) (l := b7_0) (v := y3) (f := cGItem) (u := (vGItem y3)) (T := fun y m => ⟨[(21, (.ptr 7 ((0 + (x4).toNat) * 13))), (20, (vGItem y3)), (19, (vGItem y2)), (18, (.rp (oGItem y2))), (17, (vI x4)), (16, (.d (.sl 13 (p0.map cGItem)))), (15, (vI x4)), (14, (.msl 7 13 0 m m)), (11, (vB (decide (x4 < (ln p0))))), (10, (vI (ln p0))), (9, (.d (.sl 13 (p0.map cGItem)))), (8, (vI x4)), (0, (.d (.sl 13 (p0.map cGItem)))), (3, (.msl 7 13 0 m m)), (4, (vI x4))], [(7, rowsV (y.map cGItem))]⟩) h (by kernel_rfl) (by kernel_rfl) (by kernel_rfl) (congrArg (List.map V.d) (cGItem_eq y3).symm) (fun y => (congrArg List.length (cGItem_eq y)).trans rfl) (by kernel_rfl) (fun y => by kernel_rfl) ?_
   clear h; intro y5 h
   refine ni (bn (xi (oi ?_)))
   let a8 : St := ⟨[(4, (vI (IntKind.wrap .i64 (x4 + 1)))), (13, (vI (IntKind.wrap .i64 (x4 + 1)))), (12, (vI x4)), (21, (.ptr 7 ((0 + (x4).toNat) * 13))), (20, (vGItem y3)), (19, (vGItem y2)), (18, (.rp (oGItem y2))), (17, (vI x4)), (16, (.d (.sl 13 (p0.map cGItem)))), (15, (vI x4)), (14, (.msl 7 13 0 y5.length y5.length)), (11, (vB (decide (x4 < (ln p0))))), (10, (vI (ln p0))), (9, (.d (.sl 13 (p0.map cGItem)))), (8, (vI x4)), (0, (.d (.sl 13 (p0.map cGItem)))), (3, (.msl 7 13 0 y5.length y5.length)), (4, (vI x4))], [(7, rowsV (y5.map cGItem))]⟩
   exact st 3 a8 (ni (loop_back (s' := stwToItemS_L0 p0 (IntKind.wrap .i64 (x4 + 1)) y5) (wr [] (es (es (es er_nil))) (br_rows (by kernel_rfl) br_nil)) (OK_wToItemS_L0 p0 (IntKind.wrap .i64 (x4 + 1)) y5 _ h)))
   refine ei (te (te (bh (xi (so ?_)))))
   let a9 : St := a5.p [(2, (.msl 7 13 0 b7_0.length b7_0.length)), (22, (.msl 7 13 0 b7_0.length b7_0.length))]
   refine st 2 a9 (nx (ret_frz (n := 7) (sz := 13) (l := b7_0) (f := cGItem) (s' := ⟨[(2, (.d (.sl 13 (b7_0.map cGItem))))], []⟩) (by decide) (fun y => (congrArg List.length (cGItem_eq y)).trans rfl) (by kernel_rfl) (⟨.inr ⟨b7_0.length, b7_0.length, by kernel_rfl, lms b7_0 _, by kernel_rfl⟩, trivial⟩) (trivial) (ri ?_)))
   injection h with h; subst h
   exact r1 (v := (.d (.sl 13 (b7_0.map cGItem))))
 · intro F_wToExpr OK_wToExpr p0 r h
   refine aof trwToItem ?_
   show avc Tryz.prog acwToItem (qwToItem _) ⟨[(0, (vGItem p0))], []⟩
   delta acwToItem
   refine so ?_
   let a0 : St := ⟨[(2, (.ptr 2 0)), (1, (.ptr 1 0)), (0, (vGItem p0))], [(2, [(vB false), (vS []), (vI 0), (vI 0), (vB false), (vI 0), (vI 0), (vS []), (vS []), (vS []), (.nil 10), (.nil 6), (vS [])]), (1, bGItem p0)]⟩
   refine st 2 a0 (nx (so ?_))
   let a1 : St := ⟨(3, (.ptr 3 0)) :: a0.env, [(3, [(vB false), (vS []), (vI 0), (vI 0), (vB false), (vI 0), (vI 0), (vS []), (vS []), (vS []), (.nil 10), (.nil 6), (vS [])]), (2, [(vB false), (vS []), (vI 0), (vI 0), (vB false), (vI 0), (vI 0), (vS []), (vS []), (vS []), (.nil 10), (.nil 6), (vS [])]), (1, bGItem p0)]⟩
   refine st 1 a1 (nx (so ?_))
   let a2 : St := ⟨(6, (.ptr 3 0)) :: (5, (vB p0.star)) :: (4, (.ptr 1 0)) :: a1.env, [(3, [(vB p0.star), (vS []), (vI 0), (vI 0), (vB false), (vI 0), (vI 0), (vS []), (vS []), (vS []), (.nil 10), (.nil 6), (vS [])]), (2, [(vB false), (vS []), (vI 0), (vI 0), (vB false), (vI 0), (vI 0), (vS []), (vS []), (vS []), (.nil 10), (.nil 6), (vS [])]), (1, bGItem p0)]⟩
   refine st 4 a2 (nx (so ?_))
   let a3 : St := ⟨(9, (.ptr 3 1)) :: (8, (vS p0.qual)) :: (7, (.ptr 1 1)) :: a2.env, [(3, [(vB p0.star), (vS p0.qual), (vI 0), (vI 0), (vB false), (vI 0), (vI 0), (vS []), (vS []), (vS []), (.nil 10), (.nil 6), (vS [])]), (2, [(vB false), (vS []), (vI 0), (vI 0), (vB false), (vI 0), (vI 0), (vS []), (vS []), (vS []), (.nil 10), (.nil 6), (vS [])]), (1, bGItem p0)]⟩
   refine st 4 a3 (nx (so ?_))
   let a4 : St := a3.p [(11, (vGExpr p0.expr)), (10, (.ptr 1 2))]
   refine st 2 a4 (cs h (OK_wToExpr p0.expr) fun y1 h => ?_)
   let a5 : St := ⟨(13, (.ptr 3 2)) :: (12, (vGExpr y1)) :: a4.env, [(3, [(vB p0.star), (vS p0.qual), (vI y1.kind), (vI y1.op), (vB y1.not_), (vI y1.value.kind), (vI y1.value.num), (vS y1.value.text), (vS y1.qual), (vS y1.name), (.d (.sl 10 (y1.kids.map cGExpr))), (.d (.sl 6 (y1.sub.map cGQuery))), (vS [])]), (2, [(vB false), (vS []), (vI 0), (vI 0), (vB false), (vI 0), (vI 0), (vS []), (vS []), (vS []), (.nil 10), (.nil 6), (vS [])]), (1, bGItem p0)]⟩
   refine st 2 a5 (nx (so ?_))
   let a6 : St := ⟨(16, (.ptr 3 12)) :: (15, (vS p0.as_)) :: (14, (.ptr 1 12)) :: a5.env, [(3, [(vB p0.star), (vS p0.qual), (vI y1.kind), (vI y1.op), (vB y1.not_), (vI y1.value.kind), (vI y1.value.num), (vS y1.value.text), (vS y1.qual), (vS y1.name), (.d (.sl 10 (y1.kids.map cGExpr))), (.d (.sl 6 (y1.sub.map cGQuery))), (vS p0.as_)]), (2, [(vB false), (vS []), (vI 0), (vI 0), (vB false), (vI 0), (vI 0), (vS []), (vS []), (vS []), (.nil 10), (.nil 6), (vS [])]), (1, bGItem p0)]⟩
   refine st 4 a6 (nx (so ?_))
   let a7 : St := ⟨(17, (vGItem (GItem.mk p0.star p0.qual y1 p0.as_))) :: a6.env, [(3, [(vB p0.star), (vS p0.qual), (vI y1.kind), (vI y1.op), (vB y1.not_), (vI y1.value.kind), (vI y1.value.num), (vS y1.value.text), (vS y1.qual), (vS y1.name), (.d (.sl 10 (y1.kids.map cGExpr))), (.d (.sl 6 (y1.sub.map cGQuery))), (vS p0.as_)]), (2, bGItem (GItem.mk p0.star p0.qual y1 p0.as_)), (1, bGItem p0)]⟩
   refine st 2 a7 (nx (ri ?_))
   injection h with h; subst h
   exact r1 (v := (vGItem (GItem.mk p0.star p0.qual y1 p0.as_)))
theorem OK_wToSource (p0 : GSource) : FOk Tryz.prog 88 [(vGSource p0)] (fun y => (vGSource y)) (wToSource p0) := fun r h => (OKs_wToSource).1 p0 r h
theorem OK_wToExprS (p0 : (List GExpr)) : FOk Tryz.prog 19 [(.d (.sl 10 (p0.map cGExpr)))] (fun y => (.d (.sl 10 (y.map cGExpr)))) (wToExprS p0) := fun r h => (OKs_wToSource).2.1 p0 r h
theorem OK_wToExprS_L0 (p0 : (List GExpr)) (x4 : Int) (b7_0 : (List GExpr)) (r : (List GExpr)) (h : wToExprS_L0 p0 x4 b7_0 = some r) : avc Tryz.prog acwToExprS_L0 (qwToExprS_1 r) (stwToExprS_L0 p0 x4 b7_0) := (OKs_wToSource).2.2.1 p0 x4 b7_0 r h
theorem OK_wToExpr (p0 : GExpr) : FOk Tryz.prog 52 [(vGExpr p0)] (fun y => (vGExpr y)) (wToExpr p0) := fun r h => (OKs_wToSource).2.2.2.1 p0 r h
theorem OK_wToQueryS (p0 : (List GQuery)) : FOk Tryz.prog 91 [(.d (.sl 6 (p0.map cGQuery)))] (fun y => (.d (.sl 6 (y.map cGQuery)))) (wToQueryS p0) := fun r h => (OKs_wToSource).2.2.2.2.1 p0 r h
theorem OK_wToQueryS_L0 (p0 : (List GQuery)) (x4 : Int) (b7_0 : (List GQuery)) (r : (List GQuery)) (h : wToQueryS_L0 p0 x4 b7_0 = some r) : avc Tryz.prog acwToQueryS_L0 (qwToQueryS_1 r) (stwToQueryS_L0 p0 x4 b7_0) := (OKs_wToSource).2.2.2.2.2.1 p0 x4 b7_0 r h
theorem OK_wToQuery (p0 : GQuery) : FOk Tryz.prog 16 [(vGQuery p0)] (fun y => (vGQuery y)) (wToQuery p0) := fun r h => (OKs_wToSource).2.2.2.2.2.2.1 p0 r h
theorem OK_wToSortKeyS (p0 : (List GSortKey)) : FOk Tryz.prog 51 [(.d (.sl 11 (p0.map cGSortKey)))] (fun y => (.d (.sl 11 (y.map cGSortKey)))) (wToSortKeyS p0) := fun r h => (OKs_wToSource).2.2.2.2.2.2.2.1 p0 r h
theorem OK_wToSortKeyS_L0 (p0 : (List GSortKey)) (x4 : Int) (b7_0 : (List GSortKey)) (r : (List GSortKey)) (h : wToSortKeyS_L0 p0 x4 b7_0 = some r) : avc Tryz.prog acwToSortKeyS_L0 (qwToSortKeyS_1 r) (stwToSortKeyS_L0 p0 x4 b7_0) := (OKs_wToSource).2.2.2.2.2.2.2.2.1 p0 x4 b7_0 r h
theorem OK_wToSortKey (p0 : GSortKey) : FOk Tryz.prog 89 [(vGSortKey p0)] (fun y => (vGSortKey y)) (wToSortKey p0) := fun r h => (OKs_wToSource).2.2.2.2.2.2.2.2.2.1 p0 r h
theorem OK_wToSourceS (p0 : (List GSource)) : FOk Tryz.prog 50 [(.d (.sl 3 (p0.map cGSource)))] (fun y => (.d (.sl 3 (y.map cGSource)))) (wToSourceS p0) := fun r h => (OKs_wToSource).2.2.2.2.2.2.2.2.2.2.1 p0 r h
theorem OK_wToSourceS_L0 (p0 : (List GSource)) (x4 : Int) (b7_0 : (List GSource)) (r : (List GSource)) (h : wToSourceS_L0 p0 x4 b7_0 = some r) : avc Tryz.prog acwToSourceS_L0 (qwToSourceS_1 r) (stwToSourceS_L0 p0 x4 b7_0) := (OKs_wToSource).2.2.2.2.2.2.2.2.2.2.2.1 p0 x4 b7_0 r h
theorem OK_wToItemS (p0 : (List GItem)) : FOk Tryz.prog 49 [(.d (.sl 13 (p0.map cGItem)))] (fun y => (.d (.sl 13 (y.map cGItem)))) (wToItemS p0) := fun r h => (OKs_wToSource).2.2.2.2.2.2.2.2.2.2.2.2.1 p0 r h
theorem OK_wToItemS_L0 (p0 : (List GItem)) (x4 : Int) (b7_0 : (List GItem)) (r : (List GItem)) (h : wToItemS_L0 p0 x4 b7_0 = some r) : avc Tryz.prog acwToItemS_L0 (qwToItemS_1 r) (stwToItemS_L0 p0 x4 b7_0) := (OKs_wToSource).2.2.2.2.2.2.2.2.2.2.2.2.2.1 p0 x4 b7_0 r h
theorem OK_wToItem (p0 : GItem) : FOk Tryz.prog 87 [(vGItem p0)] (fun y => (vGItem y)) (wToItem p0) := fun r h => (OKs_wToSource).2.2.2.2.2.2.2.2.2.2.2.2.2.2 p0 r h
theorem OKs_wToExprSS_L0 (p0 : (List (List GExpr))) : (∀ (x4 : Int) (b7_0 : (List (List GExpr))) (r : (List (List GExpr))), wToExprSS_L0 p0 x4 b7_0 = some r → avc Tryz.prog acwToExprSS_L0 (qwToExprSS_1 r) (stwToExprSS_L0 p0 x4 b7_0)) := by
 refine wToExprSS_L0.partial_correctness p0 (fun x4 b7_0 r => avc Tryz.prog acwToExprSS_L0 (qwToExprSS_1 r) (stwToExprSS_L0 p0 x4 b7_0)) ?_
 · intro F_wToExprSS_L0 OK_wToExprSS_L0 x4 b7_0 r h
   delta acwToExprSS_L0
   refine loop_unroll (si (so ?_))
   let a4 : St := (stwToExprSS_L0 p0 x4 b7_0).p [(9, (.d (.sl 1 (p0.map (cSl 10 cGExpr))))), (8, (vI x4))]
   refine st 2 a4 (ps (vI (ln p0)) (vln (sz := 1) (l := p0) (f := (cSl 10 cGExpr))) ?_)
   let a5 : St := a4.p [(11, (vB (decide (x4 < (ln p0))))), (10, (vI (ln p0)))]
   refine st 1 a5 (nx ?_)
   refine cd h (fun h => ?_) fun h => ?_
   refine ki (xi (si (bi (oi ?_))))
   let a6 : St := a5.p [(17, (vI x4)), (16, (.d (.sl 1 (p0.map (cSl 10 cGExpr))))), (15, (vI x4)), (14, (.msl 7 1 0 b7_0.length b7_0.length))]
   refine st 4 a6 (vs (fun (y : (List GExpr)) => (.rp [(.sl 10 (y.map cGExpr))])) h (fun y hy => via (l := p0) (f := (cSl 10 cGExpr)) (g := (cSl 10 cGExpr)) (k := .i64) hy (fun _ => rfl)) fun y2 h => ?_)
   let a7 : St := a6.p [(19, (.d (.sl 10 (y2.map cGExpr)))), (18, (.rp [(.sl 10 (y2.map cGExpr))]))]
   refine st 1 a7 (cs h (OK_wToExprS y2) fun y3 h => (vs (fun (y : (List GExpr)) => (.ptr 7 ((0 + (x4).toNat) * 1))) h (fun y hy => vop_iaE (l := b7_0) (k := .i64) hy (by kernel_rfl) (by kernel_rfl) (by kernel_rfl)) fun y4 h => ?_))
   refine sti_step (b := 7) (i := x4) (l := b7_0) (v := y3) (f := (cSl 10 cGExpr)) (u := (.d (.sl 10 (y3.map cGExpr)))) (T := fun y m => ⟨[(21, (.ptr 7 ((0 + (x4).toNat) * 1))), (20, (.d (.sl 10 (y3.map cGExpr)))), (19, (.d (.sl 10 (y2.map cGExpr)))), (18, (.rp [(.sl 10 (y2.map cGExpr))])), (17, (vI x4)), (16, (.d (.sl 1 (p0.map (cSl 10 cGExpr))))), (15, (vI x4)), (14, (.msl 7 1 0 m m)), (11, (vB (decide (x4 < (ln p0))))), (10, (vI (ln p0))), (9, (.d (.sl 1 (p0.map (cSl 10 cGExpr))))), (8, (vI x4)), (0, (.d (.sl 1 (p0.map (cSl 10 cGExpr))))), (3, (.msl 7 1 0 m m)), (4, (vI x4))], [(7, rowsV (y.map (cSl 10 cGExpr)))]⟩) h (by kernel_rfl) (by kernel_rfl) (by kernel_rfl) (by kernel_rfl) (fun y => (congrArg List.length ((fun _ => rfl) y)).trans rfl) (by kernel_rfl) (fun y => by kernel_rfl) ?_
   clear h; intro y5 h
   refine ni (bn (xi (oi ?_)))
   let a8 : St := ⟨[(4, (vI (IntKind.wrap .i64 (x4 + 1)))), (13, (vI (IntKind.wrap .i64 (x4 + 1)))), (12, (vI x4)), (21, (.ptr 7 ((0 + (x4).toNat) * 1))), (20, (.d (.sl 10 (y3.map cGExpr)))), (19, (.d (.sl 10 (y2.map cGExpr)))), (18, (.rp [(.sl 10 (y2.map cGExpr))])), (17, (vI x4)), (16, (.d (.sl 1 (p0.map (cSl 10 cGExpr))))), (15, (vI x4)), (14, (.msl 7 1 0 y5.length y5.length)), (11, (vB (decide (x4 < (ln p0))))), (10, (vI (ln p0))), (9, (.d (.sl 1 (p0.map (cSl 10 cGExpr))))), (8, (vI x4)), (0, (.d (.sl 1 (p0.map (cSl 10 cGExpr))))), (3, (.msl 7 1 0 y5.length y5.length)), (4, (vI x4))], [(7, rowsV (y5.map (cSl 10 cGExpr)))]⟩
   exact st 3 a8 (ni (loop_back (s' := stwToExprSS_L0 p0 (IntKind.wrap .i64 (x4 + 1)) y5) (wr [] (es (es (es er_nil))) (br_rows (by kernel_rfl) br_nil)) (OK_wToExprSS_L0 (IntKind.wrap .i64 (x4 + 1)) y5 _ h)))
   refine ei (te (te (bh (xi (so ?_)))))
   let a9 : St := a5.p [(2, (.msl 7 1 0 b7_0.length b7_0.length)), (22, (.msl 7 1 0 b7_0.length b7_0.length))]
   refine st 2 a9 (nx (ret_frz (n := 7) (sz := 1) (l := b7_0) (f := (cSl 10 cGExpr)) (s' := ⟨[(2, (.d (.sl 1 (b7_0.map (cSl 10 cGExpr)))))], []⟩) (by decide) (fun y => (congrArg List.length ((fun _ => rfl) y)).trans rfl) (by kernel_rfl) (⟨.inr ⟨b7_0.length, b7_0.length, by kernel_rfl, lms b7_0 _, by kernel_rfl⟩, trivial⟩) (trivial) (ri ?_)))
   injection h with h; subst h
   exact r1 (v := (.d (.sl 1 (b7_0.map (cSl 10 cGExpr)))))
theorem OK_wToExprSS_L0 (p0 : (List (List GExpr))) (x4 : Int) (b7_0 : (List (List GExpr))) (r : (List (List GExpr))) (h : wToExprSS_L0 p0 x4 b7_0 = some r) : avc Tryz.prog acwToExprSS_L0 (qwToExprSS_1 r) (stwToExprSS_L0 p0 x4 b7_0) := (OKs_wToExprSS_L0 p0) x4 b7_0 r h
theorem OK_wToExprSS (p0 : (List (List GExpr))) : FOk Tryz.prog 17 [(.d (.sl 1 (p0.map (cSl 10 cGExpr))))] (fun y => (.d (.sl 1 (y.map (cSl 10 cGExpr))))) (wToExprSS p0) := by
 intro r h
 rw [wToExprSS] at h
 refine aof trwToExprSS ?_
 show avc Tryz.prog acwToExprSS (qwToExprSS _) ⟨[(0, (.d (.sl 1 (p0.map (cSl 10 cGExpr)))))], []⟩
 delta acwToExprSS
 refine so ?_
 let a0 : St := ⟨[(2, (.nil 1)), (0, (.d (.sl 1 (p0.map (cSl 10 cGExpr)))))], []⟩
 refine st 1 a0 (nx (so ?_))
 let a1 : St := a0.p [(5, (.d (.sl 1 (p0.map (cSl 10 cGExpr)))))]
 refine st 1 a1 (ps (vI (ln p0)) (vln (sz := 1) (l := p0) (f := (cSl 10 cGExpr))) ?_)
 refine mks_step (k := .i64) (k' := .i64) (z := (([] : List GExpr) : (List GExpr))) (f := (cSl 10 cGExpr)) (S' := fun y => ⟨(7, (.msl 7 1 0 y.length y.length)) :: (6, (vI (ln p0))) :: a1.env, [(7, rowsV (y.map (cSl 10 cGExpr)))]⟩) h (by kernel_rfl) (by kernel_rfl) (by kernel_rfl) (by kernel_rfl) (by kernel_rfl) (fun y => by kernel_rfl) ?_
 clear h; intro y1 h
 let a2 : St := ⟨(3, (.msl 7 1 0 y1.length y1.length)) :: (7, (.msl 7 1 0 y1.length y1.length)) :: (6, (vI (ln p0))) :: a1.env, [(7, rowsV (y1.map (cSl 10 cGExpr)))]⟩
 refine st 1 a2 (nx (si (so ?_)))
 let a3 : St := a2.p [(4, (vI 0))]
 exact st 1 a3 (nx (bi (loop_go (s' := stwToExprSS_L0 p0 0 y1) (wr [] (es (es (es er_nil))) (br_rows (by kernel_rfl) br_nil)) (OK_wToExprSS_L0 p0 0 y1 _ h))))
theorem OKs_wToStringS_L0 (p0 : (List (List UInt8))) : (∀ (x4 : Int) (b7_0 : (List (List UInt8))) (r : (List (List UInt8))), wToStringS_L0 p0 x4 b7_0 = some r → avc Tryz.prog acwToStringS_L0 (qwToStringS_1 r) (stwToStringS_L0 p0 x4 b7_0)) := by
 refine wToStringS_L0.partial_correctness p0 (fun x4 b7_0 r => avc Tryz.prog acwToStringS_L0 (qwToStringS_1 r) (stwToStringS_L0 p0 x4 b7_0)) ?_
 · intro F_wToStringS_L0 OK_wToStringS_L0 x4 b7_0 r h
   delta acwToStringS_L0
   refine loop_unroll (si (so ?_))
   let a4 : St := (stwToStringS_L0 p0 x4 b7_0).p [(9, (.d (.sl 1 (p0.map cStr)))), (8, (vI x4))]
   refine st 2 a4 (ps (vI (ln p0)) (vln (sz := 1) (l := p0) (f := cStr)) ?_)
   let a5 : St := a4.p [(11, (vB (decide (x4 < (ln p0))))), (10, (vI (ln p0)))]
   refine st 1 a5 (nx ?_)
   refine cd h (fun h => ?_) fun h => ?_
   refine ki (xi (si (bi (oi ?_))))
   let a6 : St := a5.p [(17, (vI x4)), (16, (.d (.sl 1 (p0.map cStr)))), (15, (vI x4)), (14, (.msl 7 1 0 b7_0.length b7_0.length))]
   refine st 4 a6 (vs (fun (y : (List UInt8)) => (.rp [(.s (bs y))])) h (fun y hy => via (l := p0) (f := cStr) (g := cStr) (k := .i64) hy (fun _ => rfl)) fun y2 h => ?_)
   let a7 : St := a6.p [(19, (vS y2)), (18, (.rp [(.s (bs y2))]))]
   refine st 1 a7 (vs (fun (y : (List UInt8)) => (.ptr 7 ((0 + (x4).toNat) * 1))) h (fun y hy => vop_iaE (l := b7_0) (k := .i64) hy (by kernel_rfl) (by kernel_rfl) (by kernel_rfl)) fun y3 h => ?_)
   refine sti_step (b := 7) (i := x4) (l := b7_0) (v := y2) (f := cStr) (u := (vS y2)) (T := fun y m => ⟨[(20, (.ptr 7 ((0 + (x4).toNat) * 1))), (19, (vS y2)), (18, (.rp [(.s (bs y2))])), (17, (vI x4)), (16, (.d (.sl 1 (p0.map cStr)))), (15, (vI x4)), (14, (.msl 7 1 0 m m)), (11, (vB (decide (x4 < (ln p0))))), (10, (vI (ln p0))), (9, (.d (.sl 1 (p0.map cStr)))), (8, (vI x4)), (0, (.d (.sl 1 (p0.map cStr)))), (3, (.msl 7 1 0 m m)), (4, (vI x4))], [(7, rowsV (y.map cStr))]⟩) h (by kernel_rfl) (by kernel_rfl) (by kernel_rfl) (by kernel_rfl) (fun y => (congrArg List.length ((fun _ => rfl) y)).trans rfl) (by kernel_rfl) (fun y => by kernel_rfl) ?_
   clear h; intro y4 h
   refine ni (bn (xi (oi ?_)))
   let a8 : St := ⟨[(4, (vI (IntKind.wrap .i64 (x4 + 1)))), (13, (vI (IntKind.wrap .i64 (x4 + 1)))), (12, (vI x4)), (20, (.ptr 7 ((0 + (x4).toNat) * 1))), (19, (vS y2)), (18, (.rp [(.s (bs y2))])), (17, (vI x4)), (16, (.d (.sl 1 (p0.map cStr)))), (15, (vI x4)), (14, (.msl 7 1 0 y4.length y4.length)), (11, (vB (decide (x4 < (ln p0))))), (10, (vI (ln p0))), (9, (.d (.sl 1 (p0.map cStr)))), (8, (vI x4)), (0, (.d (.sl 1 (p0.map cStr)))), (3, (.msl 7 1 0 y4.length y4.length)), (4, (vI x4))], [(7, rowsV (y4.map cStr))]⟩
   exact st 3 a8 (ni (loop_back (s' := stwToStringS_L0 p0 (IntKind.wrap .i64 (x4 + 1)) y4) (wr [] (es (es (es er_nil))) (br_rows (by kernel_rfl) br_nil)) (OK_wToStringS_L0 (IntKind.wrap .i64 (x4 + 1)) y4 _ h)))
   refine ei (te (te (bh (xi (so ?_)))))
   let a9 : St := a5.p [(2, (.msl 7 1 0 b7_0.length b7_0.length)), (21, (.msl 7 1 0 b7_0.length b7_0.length))]
   refine st 2 a9 (nx (ret_frz (n := 7) (sz := 1) (l := b7_0) (f := cStr) (s' := ⟨[(2, (.d (.sl 1 (b7_0.map cStr))))], []⟩) (by decide) (fun y => (congrArg List.length ((fun _ => rfl) y)).trans rfl) (by kernel_rfl) (⟨.inr ⟨b7_0.length, b7_0.length, by kernel_rfl, lms b7_0 _, by kernel_rfl⟩, trivial⟩) (trivial) (ri ?_)))
   injection h with h; subst h
   exact r1 (v := (.d (.sl 1 (b7_0.map cStr))))
theorem OK_wToStringS_L0 (p0 : (List (List UInt8))) (x4 : Int) (b7_0 : (List (List UInt8))) (r : (List (List UInt8))) (h : wToStringS_L0 p0 x4 b7_0 = some r) : avc Tryz.prog acwToStringS_L0 (qwToStringS_1 r) (stwToStringS_L0 p0 x4 b7_0) := (OKs_wToStringS_L0 p0) x4 b7_0 r h
theorem OK_wToStringS (p0 : (List (List UInt8))) : FOk Tryz.prog 18 [(.d (.sl 1 (p0.map cStr)))] (fun y => (.d (.sl 1 (y.map cStr)))) (wToStringS p0) := by
 intro r h
 rw [wToStringS] at h
 refine aof trwToStringS ?_
 show avc Tryz.prog acwToStringS (qwToStringS _) ⟨[(0, (.d (.sl 1 (p0.map cStr))))], []⟩
 delta acwToStringS
 refine so ?_
 let a0 : St := ⟨[(2, (.nil 1)), (0, (.d (.sl 1 (p0.map cStr))))], []⟩
 refine st 1 a0 (nx (so ?_))
 let a1 : St := a0.p [(5, (.d (.sl 1 (p0.map cStr))))]
 refine st 1 a1 (ps (vI (ln p0)) (vln (sz := 1) (l := p0) (f := cStr)) ?_)
 refine mks_step (k := .i64) (k' := .i64) (z := ([] : (List UInt8))) (f := cStr) (S' := fun y => ⟨(7, (.msl 7 1 0 y.length y.length)) :: (6, (vI (ln p0))) :: a1.env, [(7, rowsV (y.map cStr))]⟩) h (by kernel_rfl) (by kernel_rfl) (by kernel_rfl) (by kernel_rfl) (by kernel_rfl) (fun y => by kernel_rfl) ?_
 clear h; intro y1 h
 let a2 : St := ⟨(3, (.msl 7 1 0 y1.length y1.length)) :: (7, (.msl 7 1 0 y1.length y1.length)) :: (6, (vI (ln p0))) :: a1.env, [(7, rowsV (y1.map cStr))]⟩
 refine st 1 a2 (nx (si (so ?_)))
 let a3 : St := a2.p [(4, (vI 0))]
 exact st 1 a3 (nx (bi (loop_go (s' := stwToStringS_L0 p0 0 y1) (wr [] (es (es (es er_nil))) (br_rows (by kernel_rfl) br_nil)) (OK_wToStringS_L0 p0 0 y1 _ h))))
theorem OK_wToStmt (p0 : GStmt) : FOk Tryz.prog 6 [(vGStmt p0)] (fun y => (vGStmt y)) (wToStmt p0) := by
 intro r h
 rw [wToStmt] at h
 refine aof trwToStmt ?_
 show avc Tryz.prog acwToStmt (qwToStmt _) ⟨[(0, (vGStmt p0))], []⟩
 delta acwToStmt
 refine so ?_
 let a0 : St := ⟨[(2, (.ptr 2 0)), (1, (.ptr 1 0)), (0, (vGStmt p0))], [(2, [(vI 0), (vB false), (.nil 13), (.nil 3), (.nil 10), (.nil 11), (vI 0), (vS []), (.nil 1), (.nil 1), (.nil 10), (.nil 10)]), (1, bGStmt p0)]⟩
 refine st 2 a0 (nx (so ?_))
 let a1 : St := ⟨(3, (.ptr 3 0)) :: a0.env, [(3, [(vI 0), (vB false), (.nil 13), (.nil 3), (.nil 10), (.nil 11), (vI 0), (vS []), (.nil 1), (.nil 1), (.nil 10), (.nil 10)]), (2, [(vI 0), (vB false), (.nil 13), (.nil 3), (.nil 10), (.nil 11), (vI 0), (vS []), (.nil 1), (.nil 1), (.nil 10), (.nil 10)]), (1, bGStmt p0)]⟩
 refine st 1 a1 (nx (so ?_))
 let a2 : St := ⟨(6, (.ptr 3 0)) :: (5, (vI p0.kind)) :: (4, (.ptr 1 0)) :: a1.env, [(3, [(vI p0.kind), (vB false), (.nil 13), (.nil 3), (.nil 10), (.nil 11), (vI 0), (vS []), (.nil 1), (.nil 1), (.nil 10), (.nil 10)]), (2, [(vI 0), (vB false), (.nil 13), (.nil 3), (.nil 10), (.nil 11), (vI 0), (vS []), (.nil 1), (.nil 1), (.nil 10), (.nil 10)]), (1, bGStmt p0)]⟩
 refine st 4 a2 (nx (so ?_))
 let a3 : St := a2.p [(8, (vGQuery p0.query)), (7, (.ptr 1 1))]
 refine st 2 a3 (cs h (OK_wToQuery p0.query) fun y1 h => ?_)
 let a4 : St := ⟨(10, (.ptr 3 1)) :: (9, (vGQuery y1)) :: a3.env, [(3, [(vI p0.kind), (vB y1.distinct), (.d (.sl 13 (y1.items.map cGItem))), (.d (.sl 3 (y1.from_.map cGSource))), (.d (.sl 10 (y1.where_.map cGExpr))), (.d (.sl 11 (y1.order.map cGSortKey))), (vI y1.limit), (vS []), (.nil 1), (.nil 1), (.nil 10), (.nil 10)]), (2, [(vI 0), (vB false), (.nil 13), (.nil 3), (.nil 10), (.nil 11), (vI 0), (vS []), (.nil 1), (.nil 1), (.nil 10), (.nil 10)]), (1, bGStmt p0)]⟩
 refine st 2 a4 (nx (so ?_))
 let a5 : St := ⟨(13, (.ptr 3 7)) :: (12, (vS p0.table)) :: (11, (.ptr 1 7)) :: a4.env, [(3, [(vI p0.kind), (vB y1.distinct), (.d (.sl 13 (y1.items.map cGItem))), (.d (.sl 3 (y1.from_.map cGSource))), (.d (.sl 10 (y1.where_.map cGExpr))), (.d (.sl 11 (y1.order.map cGSortKey))), (vI y1.limit), (vS p0.table), (.nil 1), (.nil 1), (.nil 10), (.nil 10)]), (2, [(vI 0), (vB false), (.nil 13), (.nil 3), (.nil 10), (.nil 11), (vI 0), (vS []), (.nil 1), (.nil 1), (.nil 10), (.nil 10)]), (1, bGStmt p0)]⟩
 refine st 4 a5 (nx (so ?_))
 let a6 : St := a5.p [(15, (.d (.sl 1 (p0.rows.map (cSl 10 cGExpr))))), (14, (.ptr 1 8))]
 refine st 2 a6 (cs h (OK_wToExprSS p0.rows) fun y2 h => ?_)
 let a7 : St := ⟨(17, (.ptr 3 8)) :: (16, (.d (.sl 1 (y2.map (cSl 10 cGExpr))))) :: a6.env, [(3, [(vI p0.kind), (vB y1.distinct), (.d (.sl 13 (y1.items.map cGItem))), (.d (.sl 3 (y1.from_.map cGSource))), (.d (.sl 10 (y1.where_.map cGExpr))), (.d (.sl 11 (y1.order.map cGSortKey))), (vI y1.limit), (vS p0.table), (.d (.sl 1 (y2.map (cSl 10 cGExpr)))), (.nil 1), (.nil 10), (.nil 10)]), (2, [(vI 0), (vB false), (.nil 13), (.nil 3), (.nil 10), (.nil 11), (vI 0), (vS []), (.nil 1), (.nil 1), (.nil 10), (.nil 10)]), (1, bGStmt p0)]⟩
 refine st 2 a7 (nx (so ?_))
 let a8 : St := a7.p [(19, (.d (.sl 1 (p0.cols.map cStr)))), (18, (.ptr 1 9))]
 refine st 2 a8 (cs h (OK_wToStringS p0.cols) fun y3 h => ?_)
 let a9 : St := ⟨(21, (.ptr 3 9)) :: (20, (.d (.sl 1 (y3.map cStr)))) :: a8.env, [(3, [(vI p0.kind), (vB y1.distinct), (.d (.sl 13 (y1.items.map cGItem))), (.d (.sl 3 (y1.from_.map cGSource))), (.d (.sl 10 (y1.where_.map cGExpr))), (.d (.sl 11 (y1.order.map cGSortKey))), (vI y1.limit), (vS p0.table), (.d (.sl 1 (y2.map (cSl 10 cGExpr)))), (.d (.sl 1 (y3.map cStr))), (.nil 10), (.nil 10)]), (2, [(vI 0), (vB false), (.nil 13), (.nil 3), (.nil 10), (.nil 11), (vI 0), (vS []), (.nil 1), (.nil 1), (.nil 10), (.nil 10)]), (1, bGStmt p0)]⟩
 refine st 2 a9 (nx (so ?_))
 let a10 : St := a9.p [(23, (.d (.sl 10 (p0.sets.map cGExpr)))), (22, (.ptr 1 10))]
 refine st 2 a10 (cs h (OK_wToExprS p0.sets) fun y4 h => ?_)
 let a11 : St := ⟨(25, (.ptr 3 10)) :: (24, (.d (.sl 10 (y4.map cGExpr)))) :: a10.env, [(3, [(vI p0.kind), (vB y1.distinct), (.d (.sl 13 (y1.items.map cGItem))), (.d (.sl 3 (y1.from_.map cGSource))), (.d (.sl 10 (y1.where_.map cGExpr))), (.d (.sl 11 (y1.order.map cGSortKey))), (vI y1.limit), (vS p0.table), (.d (.sl 1 (y2.map (cSl 10 cGExpr)))), (.d (.sl 1 (y3.map cStr))), (.d (.sl 10 (y4.map cGExpr))), (.nil 10)]), (2, [(vI 0), (vB false), (.nil 13), (.nil 3), (.nil 10), (.nil 11), (vI 0), (vS []), (.nil 1), (.nil 1), (.nil 10), (.nil 10)]), (1, bGStmt p0)]⟩
 refine st 2 a11 (nx (so ?_))
 let a12 : St := a11.p [(27, (.d (.sl 10 (p0.where_.map cGExpr)))), (26, (.ptr 1 11))]
 refine st 2 a12 (cs h (OK_wToExprS p0.where_) fun y5 h => ?_)
 let a13 : St := ⟨(29, (.ptr 3 11)) :: (28, (.d (.sl 10 (y5.map cGExpr)))) :: a12.env, [(3, [(vI p0.kind), (vB y1.distinct), (.d (.sl 13 (y1.items.map cGItem))), (.d (.sl 3 (y1.from_.map cGSource))), (.d (.sl 10 (y1.where_.map cGExpr))), (.d (.sl 11 (y1.order.map cGSortKey))), (vI y1.limit), (vS p0.table), (.d (.sl 1 (y2.map (cSl 10 cGExpr)))), (.d (.sl 1 (y3.map cStr))), (.d (.sl 10 (y4.map cGExpr))), (.d (.sl 10 (y5.map cGExpr)))]), (2, [(vI 0), (vB false), (.nil 13), (.nil 3), (.nil 10), (.nil 11), (vI 0), (vS []), (.nil 1), (.nil 1), (.nil 10), (.nil 10)]), (1, bGStmt p0)]⟩
 refine st 2 a13 (nx (so ?_))
 let a14 : St := ⟨(30, (vGStmt (GStmt.mk p0.kind y1 p0.table y2 y3 y4 y5))) :: a13.env, [(3, [(vI p0.kind), (vB y1.distinct), (.d (.sl 13 (y1.items.map cGItem))), (.d (.sl 3 (y1.from_.map cGSource))), (.d (.sl 10 (y1.where_.map cGExpr))), (.d (.sl 11 (y1.order.map cGSortKey))), (vI y1.limit), (vS p0.table), (.d (.sl 1 (y2.map (cSl 10 cGExpr)))), (.d (.sl 1 (y3.map cStr))), (.d (.sl 10 (y4.map cGExpr))), (.d (.sl 10 (y5.map cGExpr)))]), (2, bGStmt (GStmt.mk p0.kind y1 p0.table y2 y3 y4 y5)), (1, bGStmt p0)]⟩
 refine st 2 a14 (nx (ri ?_))
 injection h with h; subst h
 exact r1 (v := (vGStmt (GStmt.mk p0.kind y1 p0.table y2 y3 y4 y5)))
theorem OK_wFnExactStmtOk (p0 : GStmt) : FOk Tryz.prog 3 [(vGStmt p0)] (fun y => (vB y)) (wFnExactStmtOk p0) := by
 intro r h
 rw [wFnExactStmtOk] at h
 refine aof trwFnExactStmtOk ?_
 show avc Tryz.prog acwFnExactStmtOk (qwFnExactStmtOk _) ⟨[(0, (vGStmt p0))], []⟩
 delta acwFnExactStmtOk
 refine so ?_
 let a0 : St := ⟨[(2, (vB false)), (1, (.ptr 1 0)), (0, (vGStmt p0))], [(1, bGStmt p0)]⟩
 refine st 2 a0 (nx (so ?_))
 let a1 : St := a0.p [(3, (vI 1048576))]
 refine st 1 a1 (nx (so ?_))
 let a2 : St := a1.p [(8, (vI 1048576)), (7, (vGStmt p0))]
 refine st 2 a2 (cs h (OK_wSzStmt p0 1048576) fun y1 h => ?_)
 let a3 : St := a2.p [(3, (vI y1)), (9, (vI y1))]
 refine st 1 a3 (nx (si (so ?_)))
 let a4 : St := a3.p [(11, (vB (decide (y1 < 0)))), (10, (vI y1))]
 refine st 2 a4 (nx ?_)
 refine cd h (fun h => ?_) fun h => ?_
 refine so ?_
 let a5 : St := a4.p [(2, (vB true))]
 refine st 1 a5 (nx (ri (tr ?_)))
 injection h with h; subst h
 exact r1 (v := (vB true))
 refine ki (xi (so ?_))
 let a6 : St := a4.p [(12, (vGStmt p0))]
 refine st 1 a6 (cs h (OK_wToStmt p0) fun y2 h => (cs h (OK_sStmtOk y2) fun y3 h => ?_))
 let a7 : St := a6.p [(4, (vB y3)), (14, (vB y3)), (13, (vGStmt y2))]
 refine st 1 a7 (nx (so ?_))
 let a8 : St := a7.p [(15, (vGStmt p0))]
 refine st 1 a8 (cs h (OK_wToStmt p0) fun y4 h => ?_)
 let a9 : St := ⟨(5, (.ptr 5 0)) :: (16, (vGStmt y4)) :: a8.env, [(5, bGStmt y4), (1, bGStmt p0)]⟩
 refine st 2 a9 (nx (so ?_))
 let a10 : St := a9.p [(17, (vGStmt y4))]
 refine st 1 a10 (cs h (OK_iStmtOk y4) fun y5 h => ?_)
 let a11 : St := a10.p [(6, (vB y5)), (18, (vB y5))]
 refine st 1 a11 (nx (si (so ?_)))
 let a12 : St := a11.p [(21, (vB (!(y5 == y3)))), (20, (vB y3)), (19, (vB y5))]
 refine st 3 a12 (nx ?_)
 refine cd h (fun h => ?_) fun h => ?_
 refine so ?_
 let a13 : St := a12.p [(2, (vB false))]
 refine st 1 a13 (nx (ri (tr ?_)))
 injection h with h; subst h
 exact r1 (v := (vB false))
 refine ki (xi (si (si (dops_in ?_))))
 let a14 : St := a12.p [(23, (vGStmt p0)), (22, (vGStmt y4))]
 refine dsts_ok 2 (s' := a14) (by kernel_rfl) (dcall_step (m := wToStmt p0) (args := [(vGStmt p0)]) (v' := (fun y => (vGStmt y))) h (OK_wToStmt p0) (by kernel_rfl) (by kernel_rfl) (fun _ => rfl) ?_)
 clear h; intro y6 h
 refine dcall_step (m := wEqStmt y4 y6) (args := [(vGStmt y4), (vGStmt y6)]) (v' := (fun y => (vB y))) h (OK_wEqStmt y4 y6) (by kernel_rfl) (by kernel_rfl) (fun _ => rfl) ?_
 clear h; intro y7 h
 let a15 : St := a14.p [(26, (vB (!y7))), (25, (vB y7)), (24, (vGStmt y6))]
 refine dsts_ok 1 (s' := a15) (by kernel_rfl) (dnil_in (by kernel_rfl) (by kernel_rfl) (xi ?_))
 refine cd h (fun h => ?_) fun h => ?_
 refine so ?_
 let a16 : St := a15.p [(2, (vB false))]
 refine st 1 a16 (nx (ri (tr ?_)))
 injection h with h; subst h
 exact r1 (v := (vB false))
 refine ki (xi (so ?_))
 let a17 : St := a15.p [(2, (vB true))]
 refine st 1 a17 (nx (ri ?_))
 injection h with h; subst h
 exact r1 (v := (vB true))
theorem law_wFnExactStmtOk (hp : ∀ (x0 : GStmt) (_ : okGStmt x0), wFnExactStmtOk x0 = some true) (ls : List (List D)) (hw : WtA Tryz.prog [31] ls) (hok : ∀ l ∈ ls, ∀ x ∈ l, OkD x) : ACalls Tryz.prog 3 (argsV Tryz.prog [31] ls) [] fun x _ => x = .d (.b true) := by
  rcases hw with _ | ⟨h0, hw⟩
  cases hw
  obtain ⟨x0, rfl⟩ := de31 h0
  have a0 : argV Tryz.prog 31 (cGStmt x0) = (vGStmt x0) := by kernel_rfl
  have k0 : ∀ d ∈ cGStmt x0, OkD d := hok _ (by simp)
  simp only [argsV, a0]
  exact OK_wFnExactStmtOk x0 true (hp x0 (koGStmt x0 k0))
end Go.Proofs.YtdiknmniclancaaGreat
