/- That the code computes these functions (printed by a program). -/
import Derived.Test.YtcfkipkafnlliaaCDepth0
namespace Go.Proofs.Ytcfkipkafnlliaa
open Go Go.RowKit Go.Ab
theorem OKs_sL7Query_X_J5 : (∀ (p1 : Int) (y1 : Bool × GL1Cur) (b60021000_0 : (List GItem)) (b1000000_0_29 : (List Int)) (b1000000_1_30 : Int) (b1000000_2_31 : Int) (kb60186002_0 : ((List GExpr) × (List GSource))) (r : GQuery × GL1Cur), sL7Query_X_J5 p1 y1 b60021000_0 b1000000_0_29 b1000000_1_30 b1000000_2_31 kb60186002_0 = some r → avc Try.prog acsL7Query_X_J5 (qsL7Query_X r) (stsL7Query_X_J5 p1 y1 b60021000_0 b1000000_0_29 b1000000_1_30 b1000000_2_31 kb60186002_0)) ∧ (∀ (p0 : GL1Cur) (p1 : Int) (r : GExpr × GL1Cur), sL7Expr_X p0 p1 = some r → ACalls Try.prog 85 [(.ptr 1000000 0), (vI p1)] [(1000000, bGL1Cur p0)] fun x b => x = (fun (y : GExpr × GL1Cur) => (.agv [(vI y.1.kind), (vI y.1.op), (vB y.1.not_), (vI y.1.value.kind), (vI y.1.value.num), (vS y.1.value.text), (vS y.1.qual), (vS y.1.name), (.tre 10000008), (.tre 10000009)])) r ∧ bxHas ((fun (y : GExpr × GL1Cur) => [(10000008, [(.trc 10 (y.1.kids.map cGExpr))]), (10000009, [(.trc 6 (y.1.sub.map cGQuery))]), (1000000, bGL1Cur y.2)]) r) b) ∧ (∀ (p1 : Int) (y6 : Int × GL1Cur) (r : GExpr × GL1Cur), sL7Expr_X_J0 p1 y6 = some r → avc Try.prog acsL7Expr_X_J0 (qsL7Expr_X r) (stsL7Expr_X_J0 p1 y6)) ∧ (∀ (p0 : GL1Cur) (p1 : Int) (p2 : Int) (r : (List GExpr) × GL1Cur), sL7Kids_X p0 p1 p2 = some r → ACalls Try.prog 145 [(.ptr 1000000 0), (vI p1), (vI p2)] [(1000000, bGL1Cur p0)] fun x b => x = (fun (y : (List GExpr) × GL1Cur) => (.tre 10000000)) r ∧ bxHas ((fun (y : (List GExpr) × GL1Cur) => [(10000000, [(.trc 10 (y.1.map cGExpr))]), (1000000, bGL1Cur y.2)]) r) b) ∧ (∀ (p1 : Int) (p2 : Int) (x8 : Int) (b1000000_0 : (List Int)) (b1000000_1 : Int) (b1000000_2 : Int) (b60012000_0 : (List GExpr)) (r : (List GExpr) × GL1Cur), sL7Kids_X_L0 p1 p2 x8 b1000000_0 b1000000_1 b1000000_2 b60012000_0 = some r → avc Try.prog acsL7Kids_X_L0 (qsL7Kids_X_1 r) (stsL7Kids_X_L0 p1 p2 x8 b1000000_0 b1000000_1 b1000000_2 b60012000_0)) ∧ (∀ (p0 : GL1Cur) (p1 : Int) (r : GQuery × GL1Cur), sL7Query_X p0 p1 = some r → ACalls Try.prog 146 [(.ptr 1000000 0), (vI p1)] [(1000000, bGL1Cur p0)] fun x b => x = (fun (y : GQuery × GL1Cur) => (.agv [(vB y.1.distinct), (.tre 10000001), (.tre 10000002), (.tre 10000003), (.tre 10000004), (vI y.1.limit)])) r ∧ bxHas ((fun (y : GQuery × GL1Cur) => [(10000001, [(.trc 13 (y.1.items.map cGItem))]), (10000002, [(.trc 3 (y.1.from_.map cGSource))]), (10000003, [(.trc 10 (y.1.where_.map cGExpr))]), (10000004, [(.trc 11 (y.1.order.map cGSortKey))]), (1000000, bGL1Cur y.2)]) r) b) ∧ (∀ (p1 : Int) (y2 : Int × GL1Cur) (y1 : Bool × GL1Cur) (x7 : Int) (b1000000_0 : (List Int)) (b1000000_1 : Int) (kb1000000_2 : (Int × (List GItem))) (r : GQuery × GL1Cur), sL7Query_X_L0 p1 y2 y1 x7 b1000000_0 b1000000_1 kb1000000_2 = some r → avc Try.prog acsL7Query_X_L0 (qsL7Query_X_1 r) (stsL7Query_X_L0 p1 y2 y1 x7 b1000000_0 b1000000_1 kb1000000_2)) ∧ (∀ (p1 : Int) (y16 : Int × GL1Cur) (y1 : Bool × GL1Cur) (b60021000_0 : (List GItem)) (x9 : Int) (b1000000_0_17 : (List Int)) (kb1000000_1_18 : (Int × (Int × (List GSource)))) (r : GQuery × GL1Cur), sL7Query_X_L3 p1 y16 y1 b60021000_0 x9 b1000000_0_17 kb1000000_1_18 = some r → avc Try.prog acsL7Query_X_L3 (qsL7Query_X_7 r) (stsL7Query_X_L3 p1 y16 y1 b60021000_0 x9 b1000000_0_17 kb1000000_1_18)) ∧ (∀ (p1 : Int) (y16 : Int × GL1Cur) (x9 : Int) (y1 : Bool × GL1Cur) (y21 : (List UInt8) × GL1Cur) (b60110001_0 : (List GSource)) (kb60021000_0 : ((List GItem) × ((List UInt8) × ((List Int) × (Int × Int))))) (r : GQuery × GL1Cur), sL7Query_X_J4 p1 y16 x9 y1 y21 b60110001_0 kb60021000_0 = some r → avc Try.prog acsL7Query_X_J4 (qsL7Query_X_10 r) (stsL7Query_X_J4 p1 y16 x9 y1 y21 b60110001_0 kb60021000_0)) ∧ (∀ (p1 : Int) (y16 : Int × GL1Cur) (x9 : Int) (y1 : Bool × GL1Cur) (y21 : (List UInt8) × GL1Cur) (b10_1 : (List UInt8)) (kb60021000_0q : ((List GItem) × ((List Int) × (Int × (Int × ((List GExpr) × (List GSource))))))) (r : GQuery × GL1Cur), sL7Query_X_J6 p1 y16 x9 y1 y21 b10_1 kb60021000_0q = some r → avc Try.prog acsL7Query_X_J6 (qsL7Query_X_10 r) (stsL7Query_X_J6 p1 y16 x9 y1 y21 b10_1 kb60021000_0q)) ∧ (∀ (p1 : Int) (y2 : Int × GL1Cur) (x7 : Int) (y1 : Bool × GL1Cur) (y10 : GExpr × GL1Cur) (b60021000_0 : (List GItem)) (kb8_12 : ((List UInt8) × ((List Int) × (Int × Int)))) (r : GQuery × GL1Cur), sL7Query_X_J2 p1 y2 x7 y1 y10 b60021000_0 kb8_12 = some r → avc Try.prog acsL7Query_X_J2 (qsL7Query_X_5 r) (stsL7Query_X_J2 p1 y2 x7 y1 y10 b60021000_0 kb8_12)) ∧ (∀ (p1 : Int) (y2 : Int × GL1Cur) (x7 : Int) (y1 : Bool × GL1Cur) (b1000000_0_5 : (List Int)) (b1000000_1_6 : Int) (kb1000000_2_7 : (Int × (List GItem))) (r : GQuery × GL1Cur), sL7Query_X_J1 p1 y2 x7 y1 b1000000_0_5 b1000000_1_6 kb1000000_2_7 = some r → avc Try.prog acsL7Query_X_J1 (qsL7Query_X_2 r) (stsL7Query_X_J1 p1 y2 x7 y1 b1000000_0_5 b1000000_1_6 kb1000000_2_7)) := by
 refine sL7Query_X_J5.mutual_partial_correctness (fun p1 y1 b60021000_0 b1000000_0_29 b1000000_1_30 b1000000_2_31 kb60186002_0 r => avc Try.prog acsL7Query_X_J5 (qsL7Query_X r) (stsL7Query_X_J5 p1 y1 b60021000_0 b1000000_0_29 b1000000_1_30 b1000000_2_31 kb60186002_0)) (fun p0 p1 r => ACalls Try.prog 85 [(.ptr 1000000 0), (vI p1)] [(1000000, bGL1Cur p0)] fun x b => x = (fun (y : GExpr × GL1Cur) => (.agv [(vI y.1.kind), (vI y.1.op), (vB y.1.not_), (vI y.1.value.kind), (vI y.1.value.num), (vS y.1.value.text), (vS y.1.qual), (vS y.1.name), (.tre 10000008), (.tre 10000009)])) r ∧ bxHas ((fun (y : GExpr × GL1Cur) => [(10000008, [(.trc 10 (y.1.kids.map cGExpr))]), (10000009, [(.trc 6 (y.1.sub.map cGQuery))]), (1000000, bGL1Cur y.2)]) r) b) (fun p1 y6 r => avc Try.prog acsL7Expr_X_J0 (qsL7Expr_X r) (stsL7Expr_X_J0 p1 y6)) (fun p0 p1 p2 r => ACalls Try.prog 145 [(.ptr 1000000 0), (vI p1), (vI p2)] [(1000000, bGL1Cur p0)] fun x b => x = (fun (y : (List GExpr) × GL1Cur) => (.tre 10000000)) r ∧ bxHas ((fun (y : (List GExpr) × GL1Cur) => [(10000000, [(.trc 10 (y.1.map cGExpr))]), (1000000, bGL1Cur y.2)]) r) b) (fun p1 p2 x8 b1000000_0 b1000000_1 b1000000_2 b60012000_0 r => avc Try.prog acsL7Kids_X_L0 (qsL7Kids_X_1 r) (stsL7Kids_X_L0 p1 p2 x8 b1000000_0 b1000000_1 b1000000_2 b60012000_0)) (fun p0 p1 r => ACalls Try.prog 146 [(.ptr 1000000 0), (vI p1)] [(1000000, bGL1Cur p0)] fun x b => x = (fun (y : GQuery × GL1Cur) => (.agv [(vB y.1.distinct), (.tre 10000001), (.tre 10000002), (.tre 10000003), (.tre 10000004), (vI y.1.limit)])) r ∧ bxHas ((fun (y : GQuery × GL1Cur) => [(10000001, [(.trc 13 (y.1.items.map cGItem))]), (10000002, [(.trc 3 (y.1.from_.map cGSource))]), (10000003, [(.trc 10 (y.1.where_.map cGExpr))]), (10000004, [(.trc 11 (y.1.order.map cGSortKey))]), (1000000, bGL1Cur y.2)]) r) b) (fun p1 y2 y1 x7 b1000000_0 b1000000_1 kb1000000_2 r => avc Try.prog acsL7Query_X_L0 (qsL7Query_X_1 r) (stsL7Query_X_L0 p1 y2 y1 x7 b1000000_0 b1000000_1 kb1000000_2)) (fun p1 y16 y1 b60021000_0 x9 b1000000_0_17 kb1000000_1_18 r => avc Try.prog acsL7Query_X_L3 (qsL7Query_X_7 r) (stsL7Query_X_L3 p1 y16 y1 b60021000_0 x9 b1000000_0_17 kb1000000_1_18)) (fun p1 y16 x9 y1 y21 b60110001_0 kb60021000_0 r => avc Try.prog acsL7Query_X_J4 (qsL7Query_X_10 r) (stsL7Query_X_J4 p1 y16 x9 y1 y21 b60110001_0 kb60021000_0)) (fun p1 y16 x9 y1 y21 b10_1 kb60021000_0q r => avc Try.prog acsL7Query_X_J6 (qsL7Query_X_10 r) (stsL7Query_X_J6 p1 y16 x9 y1 y21 b10_1 kb60021000_0q)) (fun p1 y2 x7 y1 y10 b60021000_0 kb8_12 r => avc Try.prog acsL7Query_X_J2 (qsL7Query_X_5 r) (stsL7Query_X_J2 p1 y2 x7 y1 y10 b60021000_0 kb8_12)) (fun p1 y2 x7 y1 b1000000_0_5 b1000000_1_6 kb1000000_2_7 r => avc Try.prog acsL7Query_X_J1 (qsL7Query_X_2 r) (stsL7Query_X_J1 p1 y2 x7 y1 b1000000_0_5 b1000000_1_6 kb1000000_2_7)) ?_ ?_ ?_ ?_ ?_ ?_ ?_ ?_ ?_ ?_ ?_ ?_
 · intro F_sL7Expr_X OK_sL7Expr_X p1 y1 b60021000_0 b1000000_0_29 b1000000_1_30 b1000000_2_31 kb60186002_0 r h
   delta acsL7Query_X_J5
   refine si (so ?_)
   let a37 : St := (stsL7Query_X_J5 p1 y1 b60021000_0 b1000000_0_29 b1000000_1_30 b1000000_2_31 (kb60186002_0.1, kb60186002_0.2)).p [(99, (.ptr 1000000 0))]
   refine st 1 a37 ?_
   refine callg_step ⟨[(1000000, 1000000)], [], [], [], [], [], [], [], []⟩ (m := sL1Once (GL1Cur.mk b1000000_0_29 b1000000_1_30 b1000000_2_31) 3) (S' := fun (y : Bool × GL1Cur) => ⟨(100, (vB y.1)) :: a37.env, [(4, [(vB false), (.nil 13), (.nil 3), (.nil 10), (.nil 11), (vI 0)]), (5, [(vB y1.1), (.tre 60186000), (.tre 60186001), (.tre 60186002), (.nil 11), (vI (-1))]), (1000000, bGL1Cur y.2), (60186002, [(.trc 10 (kb60186002_0.1.map cGExpr))]), (60186001, [(.trc 3 (kb60186002_0.2.map cGSource))]), (60186000, [(.trc 13 (b60021000_0.map cGItem))])]⟩) h (OK_sL1Once (GL1Cur.mk b1000000_0_29 b1000000_1_30 b1000000_2_31) 3) (by kernel_rfl) (by kernel_rfl) (by kernel_rfl) (by kernel_rfl) (fun y => by kernel_rfl) (fun y => by kernel_rfl) ?_
   clear h; intro y38 h
   refine nx ?_
   refine cd h (fun h => ?_) fun h => ?_
   refine dops_in ?_
   let a38 : St := ⟨(104, (vI p1)) :: (103, (.ptr 1000000 0)) :: (102, (.nil 11)) :: (101, (.ptr 5 4)) :: (100, (vB y38.1)) :: a37.env, [(4, [(vB false), (.nil 13), (.nil 3), (.nil 10), (.nil 11), (vI 0)]), (5, [(vB y1.1), (.tre 60186000), (.tre 60186001), (.tre 60186002), (.nil 11), (vI (-1))]), (1000000, bGL1Cur y38.2), (60186002, [(.trc 10 (kb60186002_0.1.map cGExpr))]), (60186001, [(.trc 3 (kb60186002_0.2.map cGSource))]), (60186000, [(.trc 13 (b60021000_0.map cGItem))])]⟩
   refine dsts_ok 4 (s' := a38) (by kernel_rfl) ?_
   refine dcallg_step ⟨[(1000000, 1000000)], [], [], [], [], [], [(10000008, 41970008), (10000009, 41970009)], [], []⟩ [] [] (m := F_sL7Expr_X y38.2 p1) (S' := fun (y : GExpr × GL1Cur) => ⟨(105, (.agv [(vI y.1.kind), (vI y.1.op), (vB y.1.not_), (vI y.1.value.kind), (vI y.1.value.num), (vS y.1.value.text), (vS y.1.qual), (vS y.1.name), (.tre 41970008), (.tre 41970009)])) :: a38.env, [(41970008, [(.trc 10 (y.1.kids.map cGExpr))]), (41970009, [(.trc 6 (y.1.sub.map cGQuery))]), (4, [(vB false), (.nil 13), (.nil 3), (.nil 10), (.nil 11), (vI 0)]), (5, [(vB y1.1), (.tre 60186000), (.tre 60186001), (.tre 60186002), (.nil 11), (vI (-1))]), (1000000, bGL1Cur y.2), (60186002, [(.trc 10 (kb60186002_0.1.map cGExpr))]), (60186001, [(.trc 3 (kb60186002_0.2.map cGSource))]), (60186000, [(.trc 13 (b60021000_0.map cGItem))])]⟩) h (OK_sL7Expr_X y38.2 p1) (by kernel_rfl) (by kernel_rfl) (by kernel_rfl) (by kernel_rfl) (fun y => by kernel_rfl) (fun y => by kernel_rfl) ?_
   clear h; intro y39 h
   let a39 : St := ⟨(106, (.ptr 1000000 0)) :: (105, (.agv [(vI y39.1.kind), (vI y39.1.op), (vB y39.1.not_), (vI y39.1.value.kind), (vI y39.1.value.num), (vS y39.1.value.text), (vS y39.1.qual), (vS y39.1.name), (.tre 41970008), (.tre 41970009)])) :: a38.env, [(41970008, [(.trc 10 (y39.1.kids.map cGExpr))]), (41970009, [(.trc 6 (y39.1.sub.map cGQuery))]), (4, [(vB false), (.nil 13), (.nil 3), (.nil 10), (.nil 11), (vI 0)]), (5, [(vB y1.1), (.tre 60186000), (.tre 60186001), (.tre 60186002), (.nil 11), (vI (-1))]), (1000000, bGL1Cur y39.2), (60186002, [(.trc 10 (kb60186002_0.1.map cGExpr))]), (60186001, [(.trc 3 (kb60186002_0.2.map cGSource))]), (60186000, [(.trc 13 (b60021000_0.map cGItem))])]⟩
   refine dsts_ok 1 (s' := a39) (by kernel_rfl) ?_
   refine dcallg_step ⟨[(1000000, 1000000)], [], [], [], [], [], [], [], []⟩ [] [] (m := sL1Once y39.2 2) (S' := fun (y : Bool × GL1Cur) => ⟨(107, (vB y.1)) :: a39.env, [(41970008, [(.trc 10 (y39.1.kids.map cGExpr))]), (41970009, [(.trc 6 (y39.1.sub.map cGQuery))]), (4, [(vB false), (.nil 13), (.nil 3), (.nil 10), (.nil 11), (vI 0)]), (5, [(vB y1.1), (.tre 60186000), (.tre 60186001), (.tre 60186002), (.nil 11), (vI (-1))]), (1000000, bGL1Cur y.2), (60186002, [(.trc 10 (kb60186002_0.1.map cGExpr))]), (60186001, [(.trc 3 (kb60186002_0.2.map cGSource))]), (60186000, [(.trc 13 (b60021000_0.map cGItem))])]⟩) h (OK_sL1Once y39.2 2) (by kernel_rfl) (by kernel_rfl) (by kernel_rfl) (by kernel_rfl) (fun y => by kernel_rfl) (fun y => by kernel_rfl) ?_
   clear h; intro y40 h
   refine dbldv_step (c := [(vI y39.1.kind), (vI y39.1.op), (vB y39.1.not_), (vI y39.1.value.kind), (vI y39.1.value.num), (vS y39.1.value.text), (vS y39.1.qual), (vS y39.1.name), (.tre 41970008), (.tre 41970009), (vB y40.1)]) (s' := ⟨(108, (.agv [(vI y39.1.kind), (vI y39.1.op), (vB y39.1.not_), (vI y39.1.value.kind), (vI y39.1.value.num), (vS y39.1.value.text), (vS y39.1.qual), (vS y39.1.name), (.tre 41970008), (.tre 41970009), (vB y40.1)])) :: (107, (vB y40.1)) :: a39.env, [(41970008, [(.trc 10 (y39.1.kids.map cGExpr))]), (41970009, [(.trc 6 (y39.1.sub.map cGQuery))]), (4, [(vB false), (.nil 13), (.nil 3), (.nil 10), (.nil 11), (vI 0)]), (5, [(vB y1.1), (.tre 60186000), (.tre 60186001), (.tre 60186002), (.nil 11), (vI (-1))]), (1000000, bGL1Cur y40.2), (60186002, [(.trc 10 (kb60186002_0.1.map cGExpr))]), (60186001, [(.trc 3 (kb60186002_0.2.map cGSource))]), (60186000, [(.trc 13 (b60021000_0.map cGItem))])]⟩) (by kernel_rfl) (by kernel_rfl) (by kernel_rfl) ?_
   refine dbslT_step (l := ([(GSortKey.mk y39.1 y40.1)] : List GSortKey)) (f := cGSortKey) (g := oGSortKey) [41970008, 41970009] (s' := ⟨(109, (.tre 109)) :: (108, (.agv [(vI y39.1.kind), (vI y39.1.op), (vB y39.1.not_), (vI y39.1.value.kind), (vI y39.1.value.num), (vS y39.1.value.text), (vS y39.1.qual), (vS y39.1.name), (.tre 41970008), (.tre 41970009), (vB y40.1)])) :: (107, (vB y40.1)) :: a39.env, [(109, [(.trc 11 (([(GSortKey.mk y39.1 y40.1)] : List GSortKey).map cGSortKey))]), (41970008, [.trd]), (41970009, [.trd]), (4, [(vB false), (.nil 13), (.nil 3), (.nil 10), (.nil 11), (vI 0)]), (5, [(vB y1.1), (.tre 60186000), (.tre 60186001), (.tre 60186002), (.nil 11), (vI (-1))]), (1000000, bGL1Cur y40.2), (60186002, [(.trc 10 (kb60186002_0.1.map cGExpr))]), (60186001, [(.trc 3 (kb60186002_0.2.map cGSource))]), (60186000, [(.trc 13 (b60021000_0.map cGItem))])]⟩) (by kernel_rfl) cGSortKey_eq (by kernel_rfl) (by kernel_rfl) ?_
   refine dappTT_step (l := ([] : List GSortKey)) (m := ([(GSortKey.mk y39.1 y40.1)] : List GSortKey)) (f := cGSortKey) [] [109] (S' := fun y => ⟨(110, (.tre 110)) :: (109, (.tre 109)) :: (108, (.agv [(vI y39.1.kind), (vI y39.1.op), (vB y39.1.not_), (vI y39.1.value.kind), (vI y39.1.value.num), (vS y39.1.value.text), (vS y39.1.qual), (vS y39.1.name), (.tre 41970008), (.tre 41970009), (vB y40.1)])) :: (107, (vB y40.1)) :: a39.env, [(110, [(.trc 11 (y.map cGSortKey))]), (109, [.trd]), (41970008, [.trd]), (41970009, [.trd]), (4, [(vB false), (.nil 13), (.nil 3), (.nil 10), (.nil 11), (vI 0)]), (5, [(vB y1.1), (.tre 60186000), (.tre 60186001), (.tre 60186002), (.nil 11), (vI (-1))]), (1000000, bGL1Cur y40.2), (60186002, [(.trc 10 (kb60186002_0.1.map cGExpr))]), (60186001, [(.trc 3 (kb60186002_0.2.map cGSource))]), (60186000, [(.trc 13 (b60021000_0.map cGItem))])]⟩) h (by kernel_rfl) (by kernel_rfl) (by kernel_rfl) (by kernel_rfl) (fun y => by kernel_rfl) ?_
   clear h; intro y41 h
   let a40 : St := ⟨(111, (.ptr 5 4)) :: (110, (.tre 110)) :: (109, (.tre 109)) :: (108, (.agv [(vI y39.1.kind), (vI y39.1.op), (vB y39.1.not_), (vI y39.1.value.kind), (vI y39.1.value.num), (vS y39.1.value.text), (vS y39.1.qual), (vS y39.1.name), (.tre 41970008), (.tre 41970009), (vB y40.1)])) :: (107, (vB y40.1)) :: a39.env, [(110, [(.trc 11 (y41.map cGSortKey))]), (109, [.trd]), (41970008, [.trd]), (41970009, [.trd]), (4, [(vB false), (.nil 13), (.nil 3), (.nil 10), (.nil 11), (vI 0)]), (5, [(vB y1.1), (.tre 60186000), (.tre 60186001), (.tre 60186002), (.tre 110), (vI (-1))]), (1000000, bGL1Cur y40.2), (60186002, [(.trc 10 (kb60186002_0.1.map cGExpr))]), (60186001, [(.trc 3 (kb60186002_0.2.map cGSource))]), (60186000, [(.trc 13 (b60021000_0.map cGItem))])]⟩
   refine dsts_ok 2 (s' := a40) (by kernel_rfl) (dnil_in (by kernel_rfl) (by kernel_rfl) ?_)
   exact next_step (s' := stsL7Query_X_J7 y1 kb60186002_0.2 b60021000_0 y40.2.b y40.2.i y40.2.h y41 kb60186002_0.1) (tw [.rn [(60186000, 60206000), (60186001, 60206001), (60186002, 60206002), (110, 60206003)]] (wr [] (es (es (es er_nil))) (bs_ (bs_ (bs_ (bs_ (bs_ (bs_ (bs_ br_nil))))))))) (OK_sL7Query_X_J7 y1 kb60186002_0.2 b60021000_0 y40.2.b y40.2.i y40.2.h y41 kb60186002_0.1 _ h)
   refine ki ?_
   exact next_step (s' := stsL7Query_X_J7 y1 kb60186002_0.2 b60021000_0 y38.2.b y38.2.i y38.2.h ([] : List GSortKey) kb60186002_0.1) (tw [.rn [(60186000, 60206000), (60186001, 60206001), (60186002, 60206002)], .nb 5 4 60206003] (wr [] (es (es (es er_nil))) (bs_ (bs_ (bs_ (bs_ (bs_ (bs_ (bs_ br_nil))))))))) (OK_sL7Query_X_J7 y1 kb60186002_0.2 b60021000_0 y38.2.b y38.2.i y38.2.h ([] : List GSortKey) kb60186002_0.1 _ h)
 · intro F_sL7Expr_X_J0 F_sL7Kids_X F_sL7Query_X OK_sL7Expr_X_J0 OK_sL7Kids_X OK_sL7Query_X p0 p1 r h
   refine acalls_of_fn trsL7Expr_X (Nat.le_of_ble_eq_true rfl) (by intro n hn; simp at hn; simp only [NX]; omega) ?_
   show avc Try.prog acsL7Expr_X (qsL7Expr_X _) ⟨[(0, (.ptr 1000000 0)), (1, (vI p1))], [(1000000, bGL1Cur p0)]⟩
   delta acsL7Expr_X
   refine so ?_
   let a0 : St := ⟨[(4, (.ptr 4 0)), (0, (.ptr 1000000 0)), (1, (vI p1))], [(4, [(vI 0), (vI 0), (vB false), (vI 0), (vI 0), (vS []), (vS []), (vS []), (.nil 10), (.nil 6)]), (1000000, bGL1Cur p0)]⟩
   refine st 1 a0 (nx (si (so ?_)))
   let a1 : St := a0.p [(7, (vB (decide (p1 ≤ 0)))), (6, (vB (decide (p1 ≤ 0)))), (5, (vI p1))]
   refine st 3 a1 (gp true (decide (p1 ≤ 0)) (.ptr 1000000 0) (fun hc => vl) ?_)
   refine gcallg_step ⟨[(1000000, 1000000)], [], [], [], [], [], [], [], []⟩ (p := true) (b := (decide (p1 ≤ 0))) (m := sL1Once p0 5) (dflt := ((default : Bool), p0)) (S' := fun (y : Bool × GL1Cur) => ⟨(9, (.ite (true && ((decide (p1 ≤ 0)) == false)) (vB y.1))) :: (8, (.ite (true && ((decide (p1 ≤ 0)) == false)) (.ptr 1000000 0))) :: a1.env, [(4, [(vI 0), (vI 0), (vB false), (vI 0), (vI 0), (vS []), (vS []), (vS []), (.nil 10), (.nil 6)]), (1000000, bGL1Cur y.2)]⟩) h (by kernel_rfl) (OK_sL1Once p0 5) (fun hc => by kernel_rfl) (by kernel_rfl) (by kernel_rfl) (by kernel_rfl) (fun y => by kernel_rfl) (by kernel_rfl) (fun hc => (Eq.trans (b := ([(true && ((decide (p1 ≤ 0)) == false))] : List Bool).all id) (by kernel_rfl) (all_c hc rfl))) (fun y => by kernel_rfl) ?_
   clear h; intro y1 h
   refine vs (fun (y : Bool) => (vB y)) h (fun y hy => vop_pickV hy (p := true) (q := (true && ((decide (p1 ≤ 0)) == false))) (by kernel_rfl) (by kernel_rfl) (by kernel_rfl) (by kernel_rfl) (fun _ => rfl) (fun hb => gc_f rfl hb)) fun y2 h => (nx ?_)
   refine cd h (fun h => ?_) fun h => ?_
   refine si (so ?_)
   let a2 : St := ⟨(11, (.ptr 1000000 0)) :: (10, (vB y2)) :: (9, (.ite (true && ((decide (p1 ≤ 0)) == false)) (vB y1.1))) :: (8, (.ite (true && ((decide (p1 ≤ 0)) == false)) (.ptr 1000000 0))) :: a1.env, [(4, [(vI 0), (vI 0), (vB false), (vI 0), (vI 0), (vS []), (vS []), (vS []), (.nil 10), (.nil 6)]), (1000000, bGL1Cur y1.2)]⟩
   refine st 1 a2 ?_
   refine callg_step ⟨[(1000000, 1000000)], [], [], [], [], [], [], [], []⟩ (m := sL1Once y1.2 2) (S' := fun (y : Bool × GL1Cur) => ⟨(12, (vB y.1)) :: a2.env, [(4, [(vI 0), (vI 0), (vB false), (vI 0), (vI 0), (vS []), (vS []), (vS []), (.nil 10), (.nil 6)]), (1000000, bGL1Cur y.2)]⟩) h (OK_sL1Once y1.2 2) (by kernel_rfl) (by kernel_rfl) (by kernel_rfl) (by kernel_rfl) (fun y => by kernel_rfl) (fun y => by kernel_rfl) ?_
   clear h; intro y3 h
   refine nx ?_
   refine cd h (fun h => ?_) fun h => ?_
   refine so ?_
   let a3 : St := ⟨(13, (.ptr 1000000 0)) :: (12, (vB y3.1)) :: a2.env, [(4, [(vI 0), (vI 0), (vB false), (vI 0), (vI 0), (vS []), (vS []), (vS []), (.nil 10), (.nil 6)]), (1000000, bGL1Cur y3.2)]⟩
   refine st 1 a3 ?_
   refine callg_step ⟨[(1000000, 1000000)], [], [], [], [], [], [(10000008, 40220008), (10000009, 40220009)], [], []⟩ (m := sL7Col_X y3.2) (S' := fun (y : GExpr × GL1Cur) => ⟨(14, (.agv [(vI y.1.kind), (vI y.1.op), (vB y.1.not_), (vI y.1.value.kind), (vI y.1.value.num), (vS y.1.value.text), (vS y.1.qual), (vS y.1.name), (.tre 40220008), (.tre 40220009)])) :: a3.env, [(40220008, [(.trc 10 (y.1.kids.map cGExpr))]), (40220009, [(.trc 6 (y.1.sub.map cGQuery))]), (4, [(vI 0), (vI 0), (vB false), (vI 0), (vI 0), (vS []), (vS []), (vS []), (.nil 10), (.nil 6)]), (1000000, bGL1Cur y.2)]⟩) h (OK_sL7Col_X y3.2) (by kernel_rfl) (by kernel_rfl) (by kernel_rfl) (by kernel_rfl) (fun y => by kernel_rfl) (fun y => by kernel_rfl) ?_
   clear h; intro y4 h
   let a4 : St := ⟨(14, (.agv [(vI y4.1.kind), (vI y4.1.op), (vB y4.1.not_), (vI y4.1.value.kind), (vI y4.1.value.num), (vS y4.1.value.text), (vS y4.1.qual), (vS y4.1.name), (.tre 40220008), (.tre 40220009)])) :: a3.env, [(40220008, [(.trc 10 (y4.1.kids.map cGExpr))]), (40220009, [(.trc 6 (y4.1.sub.map cGQuery))]), (4, [(vI y4.1.kind), (vI y4.1.op), (vB y4.1.not_), (vI y4.1.value.kind), (vI y4.1.value.num), (vS y4.1.value.text), (vS y4.1.qual), (vS y4.1.name), (.tre 40220008), (.tre 40220009)]), (1000000, bGL1Cur y4.2)]⟩
   refine st 1 a4 (nx ?_)
   refine ret_wk (s' := ⟨[(4, (.ptr 4 0))], [(4, [(vI y4.1.kind), (vI y4.1.op), (vB y4.1.not_), (vI y4.1.value.kind), (vI y4.1.value.num), (vS y4.1.value.text), (vS y4.1.qual), (vS y4.1.name), (.tre 10000008), (.tre 10000009)]), (1000000, bGL1Cur y4.2), (10000008, [(.trc 10 (y4.1.kids.map cGExpr))]), (10000009, [(.trc 6 (y4.1.sub.map cGQuery))])]⟩) (tw [.rn [(40220008, 10000008), (40220009, 10000009)]] (wr [] (es er_nil) (br_cons (c0 := [(vI y4.1.kind), (vI y4.1.op), (vB y4.1.not_), (vI y4.1.value.kind), (vI y4.1.value.num), (vS y4.1.value.text), (vS y4.1.qual), (vS y4.1.name), (.tre 10000008), (.tre 10000009)]) (by kernel_rfl) (vrs_cons (vr_same (by kernel_rfl) (by kernel_rfl)) (vrs_cons (vr_same (by kernel_rfl) (by kernel_rfl)) (vrs_cons (vr_same (by kernel_rfl) (by kernel_rfl)) (vrs_cons (vr_same (by kernel_rfl) (by kernel_rfl)) (vrs_cons (vr_same (by kernel_rfl) (by kernel_rfl)) (vrs_cons (vr_same (by kernel_rfl) (by kernel_rfl)) (vrs_cons (vr_same (by kernel_rfl) (by kernel_rfl)) (vrs_cons (vr_same (by kernel_rfl) (by kernel_rfl)) (vrs_cons (vr_same (by kernel_rfl) (by kernel_rfl)) (vrs_cons (vr_same (by kernel_rfl) (by kernel_rfl)) (vrs_nil))))))))))) (br_cons (c0 := [(.d (.sl 1 (y4.2.b.map cU8))), (vI y4.2.i), (vI y4.2.h)]) (by kernel_rfl) (vrs_cons (vr_same (by kernel_rfl) (by kernel_rfl)) (vrs_cons (vr_same (by kernel_rfl) (by kernel_rfl)) (vrs_cons (vr_same (by kernel_rfl) (by kernel_rfl)) (vrs_nil)))) (bs_ (bs_ br_nil)))))) ?_
   refine tr (tr ?_)
   injection h with h; subst h
   exact ret1_step (v := (.agv [(vI y4.1.kind), (vI y4.1.op), (vB y4.1.not_), (vI y4.1.value.kind), (vI y4.1.value.num), (vS y4.1.value.text), (vS y4.1.qual), (vS y4.1.name), (.tre 10000008), (.tre 10000009)])) (by kernel_rfl) (by kernel_rfl) ⟨by kernel_rfl, by kernel_rfl, by kernel_rfl, by kernel_rfl, trivial⟩
   refine ki (xi (so ?_))
   let a5 : St := ⟨(15, (.ptr 1000000 0)) :: (12, (vB y3.1)) :: a2.env, [(4, [(vI 0), (vI 0), (vB false), (vI 0), (vI 0), (vS []), (vS []), (vS []), (.nil 10), (.nil 6)]), (1000000, bGL1Cur y3.2)]⟩
   refine st 1 a5 ?_
   refine callg_step ⟨[(1000000, 1000000)], [], [], [], [], [], [], [], []⟩ (m := sL7Value y3.2) (S' := fun (y : GValue × GL1Cur) => ⟨(16, (vGValue y.1)) :: a5.env, [(4, [(vI 0), (vI 0), (vB false), (vI 0), (vI 0), (vS []), (vS []), (vS []), (.nil 10), (.nil 6)]), (1000000, bGL1Cur y.2)]⟩) h (OK_sL7Value y3.2) (by kernel_rfl) (by kernel_rfl) (by kernel_rfl) (by kernel_rfl) (fun y => by kernel_rfl) (fun y => by kernel_rfl) ?_
   clear h; intro y5 h
   refine bldv_step (c := [(vI 1), (vI 0), (vB false), (vI y5.1.kind), (vI y5.1.num), (vS y5.1.text), (vS []), (vS []), (.nil 10), (.nil 6)]) (s' := ⟨(17, (.agv [(vI 1), (vI 0), (vB false), (vI y5.1.kind), (vI y5.1.num), (vS y5.1.text), (vS []), (vS []), (.nil 10), (.nil 6)])) :: (16, (vGValue y5.1)) :: a5.env, [(4, [(vI 0), (vI 0), (vB false), (vI 0), (vI 0), (vS []), (vS []), (vS []), (.nil 10), (.nil 6)]), (1000000, bGL1Cur y5.2)]⟩) (by kernel_rfl) (by kernel_rfl) (by kernel_rfl) ?_
   let a6 : St := ⟨(17, (.agv [(vI 1), (vI 0), (vB false), (vI y5.1.kind), (vI y5.1.num), (vS y5.1.text), (vS []), (vS []), (.nil 10), (.nil 6)])) :: (16, (vGValue y5.1)) :: a5.env, [(4, [(vI 1), (vI 0), (vB false), (vI y5.1.kind), (vI y5.1.num), (vS y5.1.text), (vS []), (vS []), (.nil 10), (.nil 6)]), (1000000, bGL1Cur y5.2)]⟩
   refine st 1 a6 (nx ?_)
   refine ret_wk (s' := ⟨[(4, (.ptr 4 0))], [(4, [(vI 1), (vI 0), (vB false), (vI y5.1.kind), (vI y5.1.num), (vS y5.1.text), (vS []), (vS []), (.tre 10000008), (.tre 10000009)]), (1000000, bGL1Cur y5.2), (10000009, [(.trc 6 (([] : List GQuery).map cGQuery))]), (10000008, [(.trc 10 (([] : List GExpr).map cGExpr))])]⟩) (tw [.nb 4 8 10000008, .nb 4 9 10000009] (wr [] (es er_nil) (br_cons (c0 := [(vI 1), (vI 0), (vB false), (vI y5.1.kind), (vI y5.1.num), (vS y5.1.text), (vS []), (vS []), (.tre 10000008), (.tre 10000009)]) (by kernel_rfl) (vrs_cons (vr_same (by kernel_rfl) (by kernel_rfl)) (vrs_cons (vr_same (by kernel_rfl) (by kernel_rfl)) (vrs_cons (vr_same (by kernel_rfl) (by kernel_rfl)) (vrs_cons (vr_same (by kernel_rfl) (by kernel_rfl)) (vrs_cons (vr_same (by kernel_rfl) (by kernel_rfl)) (vrs_cons (vr_same (by kernel_rfl) (by kernel_rfl)) (vrs_cons (vr_same (by kernel_rfl) (by kernel_rfl)) (vrs_cons (vr_same (by kernel_rfl) (by kernel_rfl)) (vrs_cons (vr_same (by kernel_rfl) (by kernel_rfl)) (vrs_cons (vr_same (by kernel_rfl) (by kernel_rfl)) (vrs_nil))))))))))) (br_cons (c0 := [(.d (.sl 1 (y5.2.b.map cU8))), (vI y5.2.i), (vI y5.2.h)]) (by kernel_rfl) (vrs_cons (vr_same (by kernel_rfl) (by kernel_rfl)) (vrs_cons (vr_same (by kernel_rfl) (by kernel_rfl)) (vrs_cons (vr_same (by kernel_rfl) (by kernel_rfl)) (vrs_nil)))) (bs_ (bs_ br_nil)))))) ?_
   refine tr ?_
   injection h with h; subst h
   exact ret1_step (v := (.agv [(vI 1), (vI 0), (vB false), (vI y5.1.kind), (vI y5.1.num), (vS y5.1.text), (vS []), (vS []), (.tre 10000008), (.tre 10000009)])) (by kernel_rfl) (by kernel_rfl) ⟨by kernel_rfl, by kernel_rfl, by kernel_rfl, by kernel_rfl, trivial⟩
   refine ki (xi (si (so ?_)))
   let a7 : St := ⟨(18, (.ptr 1000000 0)) :: (10, (vB y2)) :: (9, (.ite (true && ((decide (p1 ≤ 0)) == false)) (vB y1.1))) :: (8, (.ite (true && ((decide (p1 ≤ 0)) == false)) (.ptr 1000000 0))) :: a1.env, [(4, [(vI 0), (vI 0), (vB false), (vI 0), (vI 0), (vS []), (vS []), (vS []), (.nil 10), (.nil 6)]), (1000000, bGL1Cur y1.2)]⟩
   refine st 1 a7 ?_
   refine callg_step ⟨[(1000000, 1000000)], [], [], [], [], [], [], [], []⟩ (m := sL1Below y1.2 12) (S' := fun (y : Int × GL1Cur) => ⟨(19, (vI y.1)) :: a7.env, [(4, [(vI 0), (vI 0), (vB false), (vI 0), (vI 0), (vS []), (vS []), (vS []), (.nil 10), (.nil 6)]), (1000000, bGL1Cur y.2)]⟩) h (OK_sL1Below y1.2 12) (by kernel_rfl) (by kernel_rfl) (by kernel_rfl) (by kernel_rfl) (fun y => by kernel_rfl) (fun y => by kernel_rfl) ?_
   clear h; intro y6 h
   refine nx (bi (so ?_))
   let a8 : St := ⟨(20, (vB (decide (y6.1 = 0)))) :: (21, (vB (decide (y6.1 = 0)))) :: (19, (vI y6.1)) :: a7.env, [(4, [(vI 0), (vI 0), (vB false), (vI 0), (vI 0), (vS []), (vS []), (vS []), (.nil 10), (.nil 6)]), (1000000, bGL1Cur y6.2)]⟩
   refine st 2 a8 (nx ?_)
   refine cd h (fun h => ?_) fun h => ?_
   refine so ?_
   let a9 : St := a8.p [(23, (vI p1)), (22, (.ptr 1000000 0))]
   refine st 2 a9 ?_
   refine callg_step ⟨[(1000000, 1000000)], [], [], [], [], [], [(10000000, 40490000)], [], []⟩ (m := F_sL7Kids_X y6.2 p1 1) (S' := fun (y : (List GExpr) × GL1Cur) => ⟨(24, (.tre 40490000)) :: a9.env, [(40490000, [(.trc 10 (y.1.map cGExpr))]), (4, [(vI 0), (vI 0), (vB false), (vI 0), (vI 0), (vS []), (vS []), (vS []), (.nil 10), (.nil 6)]), (1000000, bGL1Cur y.2)]⟩) h (OK_sL7Kids_X y6.2 p1 1) (by kernel_rfl) (by kernel_rfl) (by kernel_rfl) (by kernel_rfl) (fun y => by kernel_rfl) (fun y => by kernel_rfl) ?_
   clear h; intro y7 h
   refine bldv_step (c := [(vI 3), (vI 15), (vB false), (vI 0), (vI 0), (vS []), (vS []), (vS []), (.tre 40490000), (.nil 6)]) (s' := ⟨(25, (.agv [(vI 3), (vI 15), (vB false), (vI 0), (vI 0), (vS []), (vS []), (vS []), (.tre 40490000), (.nil 6)])) :: (24, (.tre 40490000)) :: a9.env, [(40490000, [(.trc 10 (y7.1.map cGExpr))]), (4, [(vI 0), (vI 0), (vB false), (vI 0), (vI 0), (vS []), (vS []), (vS []), (.nil 10), (.nil 6)]), (1000000, bGL1Cur y7.2)]⟩) (by kernel_rfl) (by kernel_rfl) (by kernel_rfl) ?_
   let a10 : St := ⟨(25, (.agv [(vI 3), (vI 15), (vB false), (vI 0), (vI 0), (vS []), (vS []), (vS []), (.tre 40490000), (.nil 6)])) :: (24, (.tre 40490000)) :: a9.env, [(40490000, [(.trc 10 (y7.1.map cGExpr))]), (4, [(vI 3), (vI 15), (vB false), (vI 0), (vI 0), (vS []), (vS []), (vS []), (.tre 40490000), (.nil 6)]), (1000000, bGL1Cur y7.2)]⟩
   refine st 1 a10 (nx ?_)
   refine ret_wk (s' := ⟨[(4, (.ptr 4 0))], [(4, [(vI 3), (vI 15), (vB false), (vI 0), (vI 0), (vS []), (vS []), (vS []), (.tre 10000008), (.tre 10000009)]), (1000000, bGL1Cur y7.2), (10000009, [(.trc 6 (([] : List GQuery).map cGQuery))]), (10000008, [(.trc 10 (y7.1.map cGExpr))])]⟩) (tw [.nb 4 9 10000009, .rn [(40490000, 10000008)]] (wr [] (es er_nil) (br_cons (c0 := [(vI 3), (vI 15), (vB false), (vI 0), (vI 0), (vS []), (vS []), (vS []), (.tre 10000008), (.tre 10000009)]) (by kernel_rfl) (vrs_cons (vr_same (by kernel_rfl) (by kernel_rfl)) (vrs_cons (vr_same (by kernel_rfl) (by kernel_rfl)) (vrs_cons (vr_same (by kernel_rfl) (by kernel_rfl)) (vrs_cons (vr_same (by kernel_rfl) (by kernel_rfl)) (vrs_cons (vr_same (by kernel_rfl) (by kernel_rfl)) (vrs_cons (vr_same (by kernel_rfl) (by kernel_rfl)) (vrs_cons (vr_same (by kernel_rfl) (by kernel_rfl)) (vrs_cons (vr_same (by kernel_rfl) (by kernel_rfl)) (vrs_cons (vr_same (by kernel_rfl) (by kernel_rfl)) (vrs_cons (vr_same (by kernel_rfl) (by kernel_rfl)) (vrs_nil))))))))))) (br_cons (c0 := [(.d (.sl 1 (y7.2.b.map cU8))), (vI y7.2.i), (vI y7.2.h)]) (by kernel_rfl) (vrs_cons (vr_same (by kernel_rfl) (by kernel_rfl)) (vrs_cons (vr_same (by kernel_rfl) (by kernel_rfl)) (vrs_cons (vr_same (by kernel_rfl) (by kernel_rfl)) (vrs_nil)))) (bs_ (bs_ br_nil)))))) ?_
   refine br (tr ?_)
   injection h with h; subst h
   exact ret1_step (v := (.agv [(vI 3), (vI 15), (vB false), (vI 0), (vI 0), (vS []), (vS []), (vS []), (.tre 10000008), (.tre 10000009)])) (by kernel_rfl) (by kernel_rfl) ⟨by kernel_rfl, by kernel_rfl, by kernel_rfl, by kernel_rfl, trivial⟩
   refine so ?_
   let a11 : St := a8.p [(26, (vB (decide (y6.1 = 1)))), (27, (vB (decide (y6.1 = 1))))]
   refine st 2 a11 (nx ?_)
   refine cd h (fun h => ?_) fun h => ?_
   refine so ?_
   let a12 : St := a11.p [(29, (vI p1)), (28, (.ptr 1000000 0))]
   refine st 2 a12 ?_
   refine callg_step ⟨[(1000000, 1000000)], [], [], [], [], [], [(10000000, 40620000)], [], []⟩ (m := F_sL7Kids_X y6.2 p1 1) (S' := fun (y : (List GExpr) × GL1Cur) => ⟨(30, (.tre 40620000)) :: a12.env, [(40620000, [(.trc 10 (y.1.map cGExpr))]), (4, [(vI 0), (vI 0), (vB false), (vI 0), (vI 0), (vS []), (vS []), (vS []), (.nil 10), (.nil 6)]), (1000000, bGL1Cur y.2)]⟩) h (OK_sL7Kids_X y6.2 p1 1) (by kernel_rfl) (by kernel_rfl) (by kernel_rfl) (by kernel_rfl) (fun y => by kernel_rfl) (fun y => by kernel_rfl) ?_
   clear h; intro y8 h
   refine bldv_step (c := [(vI 3), (vI 16), (vB false), (vI 0), (vI 0), (vS []), (vS []), (vS []), (.tre 40620000), (.nil 6)]) (s' := ⟨(31, (.agv [(vI 3), (vI 16), (vB false), (vI 0), (vI 0), (vS []), (vS []), (vS []), (.tre 40620000), (.nil 6)])) :: (30, (.tre 40620000)) :: a12.env, [(40620000, [(.trc 10 (y8.1.map cGExpr))]), (4, [(vI 0), (vI 0), (vB false), (vI 0), (vI 0), (vS []), (vS []), (vS []), (.nil 10), (.nil 6)]), (1000000, bGL1Cur y8.2)]⟩) (by kernel_rfl) (by kernel_rfl) (by kernel_rfl) ?_
   let a13 : St := ⟨(31, (.agv [(vI 3), (vI 16), (vB false), (vI 0), (vI 0), (vS []), (vS []), (vS []), (.tre 40620000), (.nil 6)])) :: (30, (.tre 40620000)) :: a12.env, [(40620000, [(.trc 10 (y8.1.map cGExpr))]), (4, [(vI 3), (vI 16), (vB false), (vI 0), (vI 0), (vS []), (vS []), (vS []), (.tre 40620000), (.nil 6)]), (1000000, bGL1Cur y8.2)]⟩
   refine st 1 a13 (nx ?_)
   refine ret_wk (s' := ⟨[(4, (.ptr 4 0))], [(4, [(vI 3), (vI 16), (vB false), (vI 0), (vI 0), (vS []), (vS []), (vS []), (.tre 10000008), (.tre 10000009)]), (1000000, bGL1Cur y8.2), (10000009, [(.trc 6 (([] : List GQuery).map cGQuery))]), (10000008, [(.trc 10 (y8.1.map cGExpr))])]⟩) (tw [.nb 4 9 10000009, .rn [(40620000, 10000008)]] (wr [] (es er_nil) (br_cons (c0 := [(vI 3), (vI 16), (vB false), (vI 0), (vI 0), (vS []), (vS []), (vS []), (.tre 10000008), (.tre 10000009)]) (by kernel_rfl) (vrs_cons (vr_same (by kernel_rfl) (by kernel_rfl)) (vrs_cons (vr_same (by kernel_rfl) (by kernel_rfl)) (vrs_cons (vr_same (by kernel_rfl) (by kernel_rfl)) (vrs_cons (vr_same (by kernel_rfl) (by kernel_rfl)) (vrs_cons (vr_same (by kernel_rfl) (by kernel_rfl)) (vrs_cons (vr_same (by kernel_rfl) (by kernel_rfl)) (vrs_cons (vr_same (by kernel_rfl) (by kernel_rfl)) (vrs_cons (vr_same (by kernel_rfl) (by kernel_rfl)) (vrs_cons (vr_same (by kernel_rfl) (by kernel_rfl)) (vrs_cons (vr_same (by kernel_rfl) (by kernel_rfl)) (vrs_nil))))))))))) (br_cons (c0 := [(.d (.sl 1 (y8.2.b.map cU8))), (vI y8.2.i), (vI y8.2.h)]) (by kernel_rfl) (vrs_cons (vr_same (by kernel_rfl) (by kernel_rfl)) (vrs_cons (vr_same (by kernel_rfl) (by kernel_rfl)) (vrs_cons (vr_same (by kernel_rfl) (by kernel_rfl)) (vrs_nil)))) (bs_ (bs_ br_nil)))))) ?_
   refine br (tr ?_)
   injection h with h; subst h
   exact ret1_step (v := (.agv [(vI 3), (vI 16), (vB false), (vI 0), (vI 0), (vS []), (vS []), (vS []), (.tre 10000008), (.tre 10000009)])) (by kernel_rfl) (by kernel_rfl) ⟨by kernel_rfl, by kernel_rfl, by kernel_rfl, by kernel_rfl, trivial⟩
   refine so ?_
   let a14 : St := a11.p [(32, (vB (decide (y6.1 = 2)))), (33, (vB (decide (y6.1 = 2))))]
   refine st 2 a14 (nx ?_)
   refine cd h (fun h => ?_) fun h => ?_
   refine so ?_
   let a15 : St := a14.p [(34, (.ptr 1000000 0))]
   refine st 1 a15 ?_
   refine callg_step ⟨[(1000000, 1000000)], [], [], [], [], [], [], [], []⟩ (m := sL1Once y6.2 2) (S' := fun (y : Bool × GL1Cur) => ⟨(35, (vB y.1)) :: a15.env, [(4, [(vI 0), (vI 0), (vB false), (vI 0), (vI 0), (vS []), (vS []), (vS []), (.nil 10), (.nil 6)]), (1000000, bGL1Cur y.2)]⟩) h (OK_sL1Once y6.2 2) (by kernel_rfl) (by kernel_rfl) (by kernel_rfl) (by kernel_rfl) (fun y => by kernel_rfl) (fun y => by kernel_rfl) ?_
   clear h; intro y9 h
   let a16 : St := ⟨(37, (vI p1)) :: (36, (.ptr 1000000 0)) :: (35, (vB y9.1)) :: a15.env, [(4, [(vI 0), (vI 0), (vB false), (vI 0), (vI 0), (vS []), (vS []), (vS []), (.nil 10), (.nil 6)]), (1000000, bGL1Cur y9.2)]⟩
   refine st 2 a16 ?_
   refine callg_step ⟨[(1000000, 1000000)], [], [], [], [], [], [(10000000, 40770000)], [], []⟩ (m := F_sL7Kids_X y9.2 p1 1) (S' := fun (y : (List GExpr) × GL1Cur) => ⟨(38, (.tre 40770000)) :: a16.env, [(40770000, [(.trc 10 (y.1.map cGExpr))]), (4, [(vI 0), (vI 0), (vB false), (vI 0), (vI 0), (vS []), (vS []), (vS []), (.nil 10), (.nil 6)]), (1000000, bGL1Cur y.2)]⟩) h (OK_sL7Kids_X y9.2 p1 1) (by kernel_rfl) (by kernel_rfl) (by kernel_rfl) (by kernel_rfl) (fun y => by kernel_rfl) (fun y => by kernel_rfl) ?_
   clear h; intro y10 h
   refine bldv_step (c := [(vI 5), (vI 0), (vB y9.1), (vI 0), (vI 0), (vS []), (vS []), (vS []), (.tre 40770000), (.nil 6)]) (s' := ⟨(39, (.agv [(vI 5), (vI 0), (vB y9.1), (vI 0), (vI 0), (vS []), (vS []), (vS []), (.tre 40770000), (.nil 6)])) :: (38, (.tre 40770000)) :: a16.env, [(40770000, [(.trc 10 (y10.1.map cGExpr))]), (4, [(vI 0), (vI 0), (vB false), (vI 0), (vI 0), (vS []), (vS []), (vS []), (.nil 10), (.nil 6)]), (1000000, bGL1Cur y10.2)]⟩) (by kernel_rfl) (by kernel_rfl) (by kernel_rfl) ?_
   let a17 : St := ⟨(39, (.agv [(vI 5), (vI 0), (vB y9.1), (vI 0), (vI 0), (vS []), (vS []), (vS []), (.tre 40770000), (.nil 6)])) :: (38, (.tre 40770000)) :: a16.env, [(40770000, [(.trc 10 (y10.1.map cGExpr))]), (4, [(vI 5), (vI 0), (vB y9.1), (vI 0), (vI 0), (vS []), (vS []), (vS []), (.tre 40770000), (.nil 6)]), (1000000, bGL1Cur y10.2)]⟩
   refine st 1 a17 (nx ?_)
   refine ret_wk (s' := ⟨[(4, (.ptr 4 0))], [(4, [(vI 5), (vI 0), (vB y9.1), (vI 0), (vI 0), (vS []), (vS []), (vS []), (.tre 10000008), (.tre 10000009)]), (1000000, bGL1Cur y10.2), (10000009, [(.trc 6 (([] : List GQuery).map cGQuery))]), (10000008, [(.trc 10 (y10.1.map cGExpr))])]⟩) (tw [.nb 4 9 10000009, .rn [(40770000, 10000008)]] (wr [] (es er_nil) (br_cons (c0 := [(vI 5), (vI 0), (vB y9.1), (vI 0), (vI 0), (vS []), (vS []), (vS []), (.tre 10000008), (.tre 10000009)]) (by kernel_rfl) (vrs_cons (vr_same (by kernel_rfl) (by kernel_rfl)) (vrs_cons (vr_same (by kernel_rfl) (by kernel_rfl)) (vrs_cons (vr_same (by kernel_rfl) (by kernel_rfl)) (vrs_cons (vr_same (by kernel_rfl) (by kernel_rfl)) (vrs_cons (vr_same (by kernel_rfl) (by kernel_rfl)) (vrs_cons (vr_same (by kernel_rfl) (by kernel_rfl)) (vrs_cons (vr_same (by kernel_rfl) (by kernel_rfl)) (vrs_cons (vr_same (by kernel_rfl) (by kernel_rfl)) (vrs_cons (vr_same (by kernel_rfl) (by kernel_rfl)) (vrs_cons (vr_same (by kernel_rfl) (by kernel_rfl)) (vrs_nil))))))))))) (br_cons (c0 := [(.d (.sl 1 (y10.2.b.map cU8))), (vI y10.2.i), (vI y10.2.h)]) (by kernel_rfl) (vrs_cons (vr_same (by kernel_rfl) (by kernel_rfl)) (vrs_cons (vr_same (by kernel_rfl) (by kernel_rfl)) (vrs_cons (vr_same (by kernel_rfl) (by kernel_rfl)) (vrs_nil)))) (bs_ (bs_ br_nil)))))) ?_
   refine br (tr ?_)
   injection h with h; subst h
   exact ret1_step (v := (.agv [(vI 5), (vI 0), (vB y9.1), (vI 0), (vI 0), (vS []), (vS []), (vS []), (.tre 10000008), (.tre 10000009)])) (by kernel_rfl) (by kernel_rfl) ⟨by kernel_rfl, by kernel_rfl, by kernel_rfl, by kernel_rfl, trivial⟩
   refine so ?_
   let a18 : St := a14.p [(40, (vB (decide (y6.1 = 3)))), (41, (vB (decide (y6.1 = 3))))]
   refine st 2 a18 (nx ?_)
   refine cd h (fun h => ?_) fun h => ?_
   refine so ?_
   let a19 : St := a18.p [(42, (.ptr 1000000 0))]
   refine st 1 a19 ?_
   refine callg_step ⟨[(1000000, 1000000)], [], [], [], [], [], [], [], []⟩ (m := sL1Once y6.2 2) (S' := fun (y : Bool × GL1Cur) => ⟨(43, (vB y.1)) :: a19.env, [(4, [(vI 0), (vI 0), (vB false), (vI 0), (vI 0), (vS []), (vS []), (vS []), (.nil 10), (.nil 6)]), (1000000, bGL1Cur y.2)]⟩) h (OK_sL1Once y6.2 2) (by kernel_rfl) (by kernel_rfl) (by kernel_rfl) (by kernel_rfl) (fun y => by kernel_rfl) (fun y => by kernel_rfl) ?_
   clear h; intro y11 h
   let a20 : St := ⟨(45, (vI p1)) :: (44, (.ptr 1000000 0)) :: (43, (vB y11.1)) :: a19.env, [(4, [(vI 0), (vI 0), (vB false), (vI 0), (vI 0), (vS []), (vS []), (vS []), (.nil 10), (.nil 6)]), (1000000, bGL1Cur y11.2)]⟩
   refine st 2 a20 ?_
   refine callg_step ⟨[(1000000, 1000000)], [], [], [], [], [], [(10000000, 40920000)], [], []⟩ (m := F_sL7Kids_X y11.2 p1 3) (S' := fun (y : (List GExpr) × GL1Cur) => ⟨(46, (.tre 40920000)) :: a20.env, [(40920000, [(.trc 10 (y.1.map cGExpr))]), (4, [(vI 0), (vI 0), (vB false), (vI 0), (vI 0), (vS []), (vS []), (vS []), (.nil 10), (.nil 6)]), (1000000, bGL1Cur y.2)]⟩) h (OK_sL7Kids_X y11.2 p1 3) (by kernel_rfl) (by kernel_rfl) (by kernel_rfl) (by kernel_rfl) (fun y => by kernel_rfl) (fun y => by kernel_rfl) ?_
   clear h; intro y12 h
   refine bldv_step (c := [(vI 6), (vI 0), (vB y11.1), (vI 0), (vI 0), (vS []), (vS []), (vS []), (.tre 40920000), (.nil 6)]) (s' := ⟨(47, (.agv [(vI 6), (vI 0), (vB y11.1), (vI 0), (vI 0), (vS []), (vS []), (vS []), (.tre 40920000), (.nil 6)])) :: (46, (.tre 40920000)) :: a20.env, [(40920000, [(.trc 10 (y12.1.map cGExpr))]), (4, [(vI 0), (vI 0), (vB false), (vI 0), (vI 0), (vS []), (vS []), (vS []), (.nil 10), (.nil 6)]), (1000000, bGL1Cur y12.2)]⟩) (by kernel_rfl) (by kernel_rfl) (by kernel_rfl) ?_
   let a21 : St := ⟨(47, (.agv [(vI 6), (vI 0), (vB y11.1), (vI 0), (vI 0), (vS []), (vS []), (vS []), (.tre 40920000), (.nil 6)])) :: (46, (.tre 40920000)) :: a20.env, [(40920000, [(.trc 10 (y12.1.map cGExpr))]), (4, [(vI 6), (vI 0), (vB y11.1), (vI 0), (vI 0), (vS []), (vS []), (vS []), (.tre 40920000), (.nil 6)]), (1000000, bGL1Cur y12.2)]⟩
   refine st 1 a21 (nx ?_)
   refine ret_wk (s' := ⟨[(4, (.ptr 4 0))], [(4, [(vI 6), (vI 0), (vB y11.1), (vI 0), (vI 0), (vS []), (vS []), (vS []), (.tre 10000008), (.tre 10000009)]), (1000000, bGL1Cur y12.2), (10000009, [(.trc 6 (([] : List GQuery).map cGQuery))]), (10000008, [(.trc 10 (y12.1.map cGExpr))])]⟩) (tw [.nb 4 9 10000009, .rn [(40920000, 10000008)]] (wr [] (es er_nil) (br_cons (c0 := [(vI 6), (vI 0), (vB y11.1), (vI 0), (vI 0), (vS []), (vS []), (vS []), (.tre 10000008), (.tre 10000009)]) (by kernel_rfl) (vrs_cons (vr_same (by kernel_rfl) (by kernel_rfl)) (vrs_cons (vr_same (by kernel_rfl) (by kernel_rfl)) (vrs_cons (vr_same (by kernel_rfl) (by kernel_rfl)) (vrs_cons (vr_same (by kernel_rfl) (by kernel_rfl)) (vrs_cons (vr_same (by kernel_rfl) (by kernel_rfl)) (vrs_cons (vr_same (by kernel_rfl) (by kernel_rfl)) (vrs_cons (vr_same (by kernel_rfl) (by kernel_rfl)) (vrs_cons (vr_same (by kernel_rfl) (by kernel_rfl)) (vrs_cons (vr_same (by kernel_rfl) (by kernel_rfl)) (vrs_cons (vr_same (by kernel_rfl) (by kernel_rfl)) (vrs_nil))))))))))) (br_cons (c0 := [(.d (.sl 1 (y12.2.b.map cU8))), (vI y12.2.i), (vI y12.2.h)]) (by kernel_rfl) (vrs_cons (vr_same (by kernel_rfl) (by kernel_rfl)) (vrs_cons (vr_same (by kernel_rfl) (by kernel_rfl)) (vrs_cons (vr_same (by kernel_rfl) (by kernel_rfl)) (vrs_nil)))) (bs_ (bs_ br_nil)))))) ?_
   refine br (tr ?_)
   injection h with h; subst h
   exact ret1_step (v := (.agv [(vI 6), (vI 0), (vB y11.1), (vI 0), (vI 0), (vS []), (vS []), (vS []), (.tre 10000008), (.tre 10000009)])) (by kernel_rfl) (by kernel_rfl) ⟨by kernel_rfl, by kernel_rfl, by kernel_rfl, by kernel_rfl, trivial⟩
   refine so ?_
   let a22 : St := a18.p [(48, (vB (decide (y6.1 = 4)))), (49, (vB (decide (y6.1 = 4))))]
   refine st 2 a22 (nx ?_)
   refine cd h (fun h => ?_) fun h => ?_
   refine so ?_
   let a23 : St := a22.p [(50, (.ptr 1000000 0))]
   refine st 1 a23 ?_
   refine callg_step ⟨[(1000000, 1000000)], [], [], [], [], [], [], [], []⟩ (m := sL1Once y6.2 2) (S' := fun (y : Bool × GL1Cur) => ⟨(51, (vB y.1)) :: a23.env, [(4, [(vI 0), (vI 0), (vB false), (vI 0), (vI 0), (vS []), (vS []), (vS []), (.nil 10), (.nil 6)]), (1000000, bGL1Cur y.2)]⟩) h (OK_sL1Once y6.2 2) (by kernel_rfl) (by kernel_rfl) (by kernel_rfl) (by kernel_rfl) (fun y => by kernel_rfl) (fun y => by kernel_rfl) ?_
   clear h; intro y13 h
   let a24 : St := ⟨(54, (.ptr 1000000 0)) :: (53, (vI p1)) :: (52, (.ptr 1000000 0)) :: (51, (vB y13.1)) :: a23.env, [(4, [(vI 0), (vI 0), (vB false), (vI 0), (vI 0), (vS []), (vS []), (vS []), (.nil 10), (.nil 6)]), (1000000, bGL1Cur y13.2)]⟩
   refine st 3 a24 ?_
   refine callg_step ⟨[(1000000, 1000000)], [], [], [], [], [], [], [], []⟩ (m := sL1Below y13.2 2) (S' := fun (y : Int × GL1Cur) => ⟨(55, (vI y.1)) :: a24.env, [(4, [(vI 0), (vI 0), (vB false), (vI 0), (vI 0), (vS []), (vS []), (vS []), (.nil 10), (.nil 6)]), (1000000, bGL1Cur y.2)]⟩) h (OK_sL1Below y13.2 2) (by kernel_rfl) (by kernel_rfl) (by kernel_rfl) (by kernel_rfl) (fun y => by kernel_rfl) (fun y => by kernel_rfl) ?_
   clear h; intro y14 h
   let a25 : St := ⟨(56, (vI (IntKind.wrap .i64 (2 + y14.1)))) :: (55, (vI y14.1)) :: a24.env, [(4, [(vI 0), (vI 0), (vB false), (vI 0), (vI 0), (vS []), (vS []), (vS []), (.nil 10), (.nil 6)]), (1000000, bGL1Cur y14.2)]⟩
   refine st 1 a25 ?_
   refine callg_step ⟨[(1000000, 1000000)], [], [], [], [], [], [(10000000, 41100000)], [], []⟩ (m := F_sL7Kids_X y14.2 p1 (IntKind.wrap .i64 (2 + y14.1))) (S' := fun (y : (List GExpr) × GL1Cur) => ⟨(57, (.tre 41100000)) :: a25.env, [(41100000, [(.trc 10 (y.1.map cGExpr))]), (4, [(vI 0), (vI 0), (vB false), (vI 0), (vI 0), (vS []), (vS []), (vS []), (.nil 10), (.nil 6)]), (1000000, bGL1Cur y.2)]⟩) h (OK_sL7Kids_X y14.2 p1 (IntKind.wrap .i64 (2 + y14.1))) (by kernel_rfl) (by kernel_rfl) (by kernel_rfl) (by kernel_rfl) (fun y => by kernel_rfl) (fun y => by kernel_rfl) ?_
   clear h; intro y15 h
   refine bldv_step (c := [(vI 7), (vI 0), (vB y13.1), (vI 0), (vI 0), (vS []), (vS []), (vS []), (.tre 41100000), (.nil 6)]) (s' := ⟨(58, (.agv [(vI 7), (vI 0), (vB y13.1), (vI 0), (vI 0), (vS []), (vS []), (vS []), (.tre 41100000), (.nil 6)])) :: (57, (.tre 41100000)) :: a25.env, [(41100000, [(.trc 10 (y15.1.map cGExpr))]), (4, [(vI 0), (vI 0), (vB false), (vI 0), (vI 0), (vS []), (vS []), (vS []), (.nil 10), (.nil 6)]), (1000000, bGL1Cur y15.2)]⟩) (by kernel_rfl) (by kernel_rfl) (by kernel_rfl) ?_
   let a26 : St := ⟨(58, (.agv [(vI 7), (vI 0), (vB y13.1), (vI 0), (vI 0), (vS []), (vS []), (vS []), (.tre 41100000), (.nil 6)])) :: (57, (.tre 41100000)) :: a25.env, [(41100000, [(.trc 10 (y15.1.map cGExpr))]), (4, [(vI 7), (vI 0), (vB y13.1), (vI 0), (vI 0), (vS []), (vS []), (vS []), (.tre 41100000), (.nil 6)]), (1000000, bGL1Cur y15.2)]⟩
   refine st 1 a26 (nx ?_)
   refine ret_wk (s' := ⟨[(4, (.ptr 4 0))], [(4, [(vI 7), (vI 0), (vB y13.1), (vI 0), (vI 0), (vS []), (vS []), (vS []), (.tre 10000008), (.tre 10000009)]), (1000000, bGL1Cur y15.2), (10000009, [(.trc 6 (([] : List GQuery).map cGQuery))]), (10000008, [(.trc 10 (y15.1.map cGExpr))])]⟩) (tw [.nb 4 9 10000009, .rn [(41100000, 10000008)]] (wr [] (es er_nil) (br_cons (c0 := [(vI 7), (vI 0), (vB y13.1), (vI 0), (vI 0), (vS []), (vS []), (vS []), (.tre 10000008), (.tre 10000009)]) (by kernel_rfl) (vrs_cons (vr_same (by kernel_rfl) (by kernel_rfl)) (vrs_cons (vr_same (by kernel_rfl) (by kernel_rfl)) (vrs_cons (vr_same (by kernel_rfl) (by kernel_rfl)) (vrs_cons (vr_same (by kernel_rfl) (by kernel_rfl)) (vrs_cons (vr_same (by kernel_rfl) (by kernel_rfl)) (vrs_cons (vr_same (by kernel_rfl) (by kernel_rfl)) (vrs_cons (vr_same (by kernel_rfl) (by kernel_rfl)) (vrs_cons (vr_same (by kernel_rfl) (by kernel_rfl)) (vrs_cons (vr_same (by kernel_rfl) (by kernel_rfl)) (vrs_cons (vr_same (by kernel_rfl) (by kernel_rfl)) (vrs_nil))))))))))) (br_cons (c0 := [(.d (.sl 1 (y15.2.b.map cU8))), (vI y15.2.i), (vI y15.2.h)]) (by kernel_rfl) (vrs_cons (vr_same (by kernel_rfl) (by kernel_rfl)) (vrs_cons (vr_same (by kernel_rfl) (by kernel_rfl)) (vrs_cons (vr_same (by kernel_rfl) (by kernel_rfl)) (vrs_nil)))) (bs_ (bs_ br_nil)))))) ?_
   refine br (tr ?_)
   injection h with h; subst h
   exact ret1_step (v := (.agv [(vI 7), (vI 0), (vB y13.1), (vI 0), (vI 0), (vS []), (vS []), (vS []), (.tre 10000008), (.tre 10000009)])) (by kernel_rfl) (by kernel_rfl) ⟨by kernel_rfl, by kernel_rfl, by kernel_rfl, by kernel_rfl, trivial⟩
   refine so ?_
   let a27 : St := a22.p [(59, (vB (decide (y6.1 = 5)))), (60, (vB (decide (y6.1 = 5))))]
   refine st 2 a27 (nx ?_)
   refine cd h (fun h => ?_) fun h => ?_
   refine so ?_
   let a28 : St := a27.p [(62, (vB (decide (1 < p1)))), (61, (vI p1))]
   refine st 2 a28 (nx ?_)
   refine cd h (fun h => ?_) fun h => ?_
   refine so ?_
   let a29 : St := a28.p [(63, (.ptr 1000000 0))]
   refine st 1 a29 ?_
   refine callg_step ⟨[(1000000, 1000000)], [], [], [], [], [], [], [], []⟩ (m := sL1Once y6.2 2) (S' := fun (y : Bool × GL1Cur) => ⟨(64, (vB y.1)) :: a29.env, [(4, [(vI 0), (vI 0), (vB false), (vI 0), (vI 0), (vS []), (vS []), (vS []), (.nil 10), (.nil 6)]), (1000000, bGL1Cur y.2)]⟩) h (OK_sL1Once y6.2 2) (by kernel_rfl) (by kernel_rfl) (by kernel_rfl) (by kernel_rfl) (fun y => by kernel_rfl) (fun y => by kernel_rfl) ?_
   clear h; intro y16 h
   let a30 : St := ⟨(66, (vI p1)) :: (65, (.ptr 1000000 0)) :: (64, (vB y16.1)) :: a29.env, [(4, [(vI 0), (vI 0), (vB false), (vI 0), (vI 0), (vS []), (vS []), (vS []), (.nil 10), (.nil 6)]), (1000000, bGL1Cur y16.2)]⟩
   refine st 2 a30 ?_
   refine callg_step ⟨[(1000000, 1000000)], [], [], [], [], [], [(10000000, 41300000)], [], []⟩ (m := F_sL7Kids_X y16.2 p1 1) (S' := fun (y : (List GExpr) × GL1Cur) => ⟨(67, (.tre 41300000)) :: a30.env, [(41300000, [(.trc 10 (y.1.map cGExpr))]), (4, [(vI 0), (vI 0), (vB false), (vI 0), (vI 0), (vS []), (vS []), (vS []), (.nil 10), (.nil 6)]), (1000000, bGL1Cur y.2)]⟩) h (OK_sL7Kids_X y16.2 p1 1) (by kernel_rfl) (by kernel_rfl) (by kernel_rfl) (by kernel_rfl) (fun y => by kernel_rfl) (fun y => by kernel_rfl) ?_
   clear h; intro y17 h
   let a31 : St := ⟨(70, (vI (IntKind.wrap .i64 (p1 - 2)))) :: (69, (vI p1)) :: (68, (.ptr 1000000 0)) :: (67, (.tre 41300000)) :: a30.env, [(41300000, [(.trc 10 (y17.1.map cGExpr))]), (4, [(vI 0), (vI 0), (vB false), (vI 0), (vI 0), (vS []), (vS []), (vS []), (.nil 10), (.nil 6)]), (1000000, bGL1Cur y17.2)]⟩
   refine st 3 a31 ?_
   refine callg_step ⟨[(1000000, 1000000)], [], [], [], [], [], [(10000001, 41340001), (10000002, 41340002), (10000003, 41340003), (10000004, 41340004)], [], []⟩ (m := F_sL7Query_X y17.2 (IntKind.wrap .i64 (p1 - 2))) (S' := fun (y : GQuery × GL1Cur) => ⟨(71, (.agv [(vB y.1.distinct), (.tre 41340001), (.tre 41340002), (.tre 41340003), (.tre 41340004), (vI y.1.limit)])) :: a31.env, [(41340001, [(.trc 13 (y.1.items.map cGItem))]), (41340002, [(.trc 3 (y.1.from_.map cGSource))]), (41340003, [(.trc 10 (y.1.where_.map cGExpr))]), (41340004, [(.trc 11 (y.1.order.map cGSortKey))]), (41300000, [(.trc 10 (y17.1.map cGExpr))]), (4, [(vI 0), (vI 0), (vB false), (vI 0), (vI 0), (vS []), (vS []), (vS []), (.nil 10), (.nil 6)]), (1000000, bGL1Cur y.2)]⟩) h (OK_sL7Query_X y17.2 (IntKind.wrap .i64 (p1 - 2))) (by kernel_rfl) (by kernel_rfl) (by kernel_rfl) (by kernel_rfl) (fun y => by kernel_rfl) (fun y => by kernel_rfl) ?_
   clear h; intro y18 h
   refine bslT_step (l := ([y18.1] : List GQuery)) (f := cGQuery) (g := oGQuery) [41340001, 41340002, 41340003, 41340004] (s' := ⟨(72, (.tre 72)) :: (71, (.agv [(vB y18.1.distinct), (.tre 41340001), (.tre 41340002), (.tre 41340003), (.tre 41340004), (vI y18.1.limit)])) :: a31.env, [(72, [(.trc 6 (([y18.1] : List GQuery).map cGQuery))]), (41340001, [.trd]), (41340002, [.trd]), (41340003, [.trd]), (41340004, [.trd]), (41300000, [(.trc 10 (y17.1.map cGExpr))]), (4, [(vI 0), (vI 0), (vB false), (vI 0), (vI 0), (vS []), (vS []), (vS []), (.nil 10), (.nil 6)]), (1000000, bGL1Cur y18.2)]⟩) (by kernel_rfl) cGQuery_eq (by kernel_rfl) (by kernel_rfl) ?_
   refine bldv_step (c := [(vI 8), (vI 0), (vB y16.1), (vI 0), (vI 0), (vS []), (vS []), (vS []), (.tre 41300000), (.tre 72)]) (s' := ⟨(73, (.agv [(vI 8), (vI 0), (vB y16.1), (vI 0), (vI 0), (vS []), (vS []), (vS []), (.tre 41300000), (.tre 72)])) :: (72, (.tre 72)) :: (71, (.agv [(vB y18.1.distinct), (.tre 41340001), (.tre 41340002), (.tre 41340003), (.tre 41340004), (vI y18.1.limit)])) :: a31.env, [(72, [(.trc 6 (([y18.1] : List GQuery).map cGQuery))]), (41340001, [.trd]), (41340002, [.trd]), (41340003, [.trd]), (41340004, [.trd]), (41300000, [(.trc 10 (y17.1.map cGExpr))]), (4, [(vI 0), (vI 0), (vB false), (vI 0), (vI 0), (vS []), (vS []), (vS []), (.nil 10), (.nil 6)]), (1000000, bGL1Cur y18.2)]⟩) (by kernel_rfl) (by kernel_rfl) (by kernel_rfl) ?_
   let a32 : St := ⟨(73, (.agv [(vI 8), (vI 0), (vB y16.1), (vI 0), (vI 0), (vS []), (vS []), (vS []), (.tre 41300000), (.tre 72)])) :: (72, (.tre 72)) :: (71, (.agv [(vB y18.1.distinct), (.tre 41340001), (.tre 41340002), (.tre 41340003), (.tre 41340004), (vI y18.1.limit)])) :: a31.env, [(72, [(.trc 6 (([y18.1] : List GQuery).map cGQuery))]), (41340001, [.trd]), (41340002, [.trd]), (41340003, [.trd]), (41340004, [.trd]), (41300000, [(.trc 10 (y17.1.map cGExpr))]), (4, [(vI 8), (vI 0), (vB y16.1), (vI 0), (vI 0), (vS []), (vS []), (vS []), (.tre 41300000), (.tre 72)]), (1000000, bGL1Cur y18.2)]⟩
   refine st 1 a32 (nx ?_)
   refine ret_wk (s' := ⟨[(4, (.ptr 4 0))], [(4, [(vI 8), (vI 0), (vB y16.1), (vI 0), (vI 0), (vS []), (vS []), (vS []), (.tre 10000008), (.tre 10000009)]), (1000000, bGL1Cur y18.2), (10000009, [(.trc 6 (([y18.1] : List GQuery).map cGQuery))]), (10000008, [(.trc 10 (y17.1.map cGExpr))])]⟩) (tw [.rn [(41300000, 10000008), (72, 10000009)]] (wr [] (es er_nil) (br_cons (c0 := [(vI 8), (vI 0), (vB y16.1), (vI 0), (vI 0), (vS []), (vS []), (vS []), (.tre 10000008), (.tre 10000009)]) (by kernel_rfl) (vrs_cons (vr_same (by kernel_rfl) (by kernel_rfl)) (vrs_cons (vr_same (by kernel_rfl) (by kernel_rfl)) (vrs_cons (vr_same (by kernel_rfl) (by kernel_rfl)) (vrs_cons (vr_same (by kernel_rfl) (by kernel_rfl)) (vrs_cons (vr_same (by kernel_rfl) (by kernel_rfl)) (vrs_cons (vr_same (by kernel_rfl) (by kernel_rfl)) (vrs_cons (vr_same (by kernel_rfl) (by kernel_rfl)) (vrs_cons (vr_same (by kernel_rfl) (by kernel_rfl)) (vrs_cons (vr_same (by kernel_rfl) (by kernel_rfl)) (vrs_cons (vr_same (by kernel_rfl) (by kernel_rfl)) (vrs_nil))))))))))) (br_cons (c0 := [(.d (.sl 1 (y18.2.b.map cU8))), (vI y18.2.i), (vI y18.2.h)]) (by kernel_rfl) (vrs_cons (vr_same (by kernel_rfl) (by kernel_rfl)) (vrs_cons (vr_same (by kernel_rfl) (by kernel_rfl)) (vrs_cons (vr_same (by kernel_rfl) (by kernel_rfl)) (vrs_nil)))) (bs_ (bs_ br_nil)))))) ?_
   refine br (tr ?_)
   injection h with h; subst h
   exact ret1_step (v := (.agv [(vI 8), (vI 0), (vB y16.1), (vI 0), (vI 0), (vS []), (vS []), (vS []), (.tre 10000008), (.tre 10000009)])) (by kernel_rfl) (by kernel_rfl) ⟨by kernel_rfl, by kernel_rfl, by kernel_rfl, by kernel_rfl, trivial⟩
   exact ki (bn (next_step (s' := stsL7Expr_X_J0 p1 y6) (wr [] (es (es (es er_nil))) (bs_ (bs_ br_nil))) (OK_sL7Expr_X_J0 p1 y6 _ h)))
   refine so ?_
   let a33 : St := a27.p [(74, (vB (decide (y6.1 = 6)))), (75, (vB (decide (y6.1 = 6))))]
   refine st 2 a33 (nx ?_)
   refine cd h (fun h => ?_) fun h => ?_
   refine so ?_
   let a34 : St := a33.p [(77, (vB (decide (1 < p1)))), (76, (vI p1))]
   refine st 2 a34 (nx ?_)
   refine cd h (fun h => ?_) fun h => ?_
   refine so ?_
   let a35 : St := a34.p [(80, (vI (IntKind.wrap .i64 (p1 - 2)))), (79, (vI p1)), (78, (.ptr 1000000 0))]
   refine st 3 a35 ?_
   refine callg_step ⟨[(1000000, 1000000)], [], [], [], [], [], [(10000001, 41550001), (10000002, 41550002), (10000003, 41550003), (10000004, 41550004)], [], []⟩ (m := F_sL7Query_X y6.2 (IntKind.wrap .i64 (p1 - 2))) (S' := fun (y : GQuery × GL1Cur) => ⟨(81, (.agv [(vB y.1.distinct), (.tre 41550001), (.tre 41550002), (.tre 41550003), (.tre 41550004), (vI y.1.limit)])) :: a35.env, [(41550001, [(.trc 13 (y.1.items.map cGItem))]), (41550002, [(.trc 3 (y.1.from_.map cGSource))]), (41550003, [(.trc 10 (y.1.where_.map cGExpr))]), (41550004, [(.trc 11 (y.1.order.map cGSortKey))]), (4, [(vI 0), (vI 0), (vB false), (vI 0), (vI 0), (vS []), (vS []), (vS []), (.nil 10), (.nil 6)]), (1000000, bGL1Cur y.2)]⟩) h (OK_sL7Query_X y6.2 (IntKind.wrap .i64 (p1 - 2))) (by kernel_rfl) (by kernel_rfl) (by kernel_rfl) (by kernel_rfl) (fun y => by kernel_rfl) (fun y => by kernel_rfl) ?_
   clear h; intro y19 h
   refine bslT_step (l := ([y19.1] : List GQuery)) (f := cGQuery) (g := oGQuery) [41550001, 41550002, 41550003, 41550004] (s' := ⟨(82, (.tre 82)) :: (81, (.agv [(vB y19.1.distinct), (.tre 41550001), (.tre 41550002), (.tre 41550003), (.tre 41550004), (vI y19.1.limit)])) :: a35.env, [(82, [(.trc 6 (([y19.1] : List GQuery).map cGQuery))]), (41550001, [.trd]), (41550002, [.trd]), (41550003, [.trd]), (41550004, [.trd]), (4, [(vI 0), (vI 0), (vB false), (vI 0), (vI 0), (vS []), (vS []), (vS []), (.nil 10), (.nil 6)]), (1000000, bGL1Cur y19.2)]⟩) (by kernel_rfl) cGQuery_eq (by kernel_rfl) (by kernel_rfl) ?_
   refine bldv_step (c := [(vI 9), (vI 0), (vB false), (vI 0), (vI 0), (vS []), (vS []), (vS []), (.nil 10), (.tre 82)]) (s' := ⟨(83, (.agv [(vI 9), (vI 0), (vB false), (vI 0), (vI 0), (vS []), (vS []), (vS []), (.nil 10), (.tre 82)])) :: (82, (.tre 82)) :: (81, (.agv [(vB y19.1.distinct), (.tre 41550001), (.tre 41550002), (.tre 41550003), (.tre 41550004), (vI y19.1.limit)])) :: a35.env, [(82, [(.trc 6 (([y19.1] : List GQuery).map cGQuery))]), (41550001, [.trd]), (41550002, [.trd]), (41550003, [.trd]), (41550004, [.trd]), (4, [(vI 0), (vI 0), (vB false), (vI 0), (vI 0), (vS []), (vS []), (vS []), (.nil 10), (.nil 6)]), (1000000, bGL1Cur y19.2)]⟩) (by kernel_rfl) (by kernel_rfl) (by kernel_rfl) ?_
   let a36 : St := ⟨(83, (.agv [(vI 9), (vI 0), (vB false), (vI 0), (vI 0), (vS []), (vS []), (vS []), (.nil 10), (.tre 82)])) :: (82, (.tre 82)) :: (81, (.agv [(vB y19.1.distinct), (.tre 41550001), (.tre 41550002), (.tre 41550003), (.tre 41550004), (vI y19.1.limit)])) :: a35.env, [(82, [(.trc 6 (([y19.1] : List GQuery).map cGQuery))]), (41550001, [.trd]), (41550002, [.trd]), (41550003, [.trd]), (41550004, [.trd]), (4, [(vI 9), (vI 0), (vB false), (vI 0), (vI 0), (vS []), (vS []), (vS []), (.nil 10), (.tre 82)]), (1000000, bGL1Cur y19.2)]⟩
   refine st 1 a36 (nx ?_)
   refine ret_wk (s' := ⟨[(4, (.ptr 4 0))], [(4, [(vI 9), (vI 0), (vB false), (vI 0), (vI 0), (vS []), (vS []), (vS []), (.tre 10000008), (.tre 10000009)]), (1000000, bGL1Cur y19.2), (10000008, [(.trc 10 (([] : List GExpr).map cGExpr))]), (10000009, [(.trc 6 (([y19.1] : List GQuery).map cGQuery))])]⟩) (tw [.nb 4 8 10000008, .rn [(82, 10000009)]] (wr [] (es er_nil) (br_cons (c0 := [(vI 9), (vI 0), (vB false), (vI 0), (vI 0), (vS []), (vS []), (vS []), (.tre 10000008), (.tre 10000009)]) (by kernel_rfl) (vrs_cons (vr_same (by kernel_rfl) (by kernel_rfl)) (vrs_cons (vr_same (by kernel_rfl) (by kernel_rfl)) (vrs_cons (vr_same (by kernel_rfl) (by kernel_rfl)) (vrs_cons (vr_same (by kernel_rfl) (by kernel_rfl)) (vrs_cons (vr_same (by kernel_rfl) (by kernel_rfl)) (vrs_cons (vr_same (by kernel_rfl) (by kernel_rfl)) (vrs_cons (vr_same (by kernel_rfl) (by kernel_rfl)) (vrs_cons (vr_same (by kernel_rfl) (by kernel_rfl)) (vrs_cons (vr_same (by kernel_rfl) (by kernel_rfl)) (vrs_cons (vr_same (by kernel_rfl) (by kernel_rfl)) (vrs_nil))))))))))) (br_cons (c0 := [(.d (.sl 1 (y19.2.b.map cU8))), (vI y19.2.i), (vI y19.2.h)]) (by kernel_rfl) (vrs_cons (vr_same (by kernel_rfl) (by kernel_rfl)) (vrs_cons (vr_same (by kernel_rfl) (by kernel_rfl)) (vrs_cons (vr_same (by kernel_rfl) (by kernel_rfl)) (vrs_nil)))) (bs_ (bs_ br_nil)))))) ?_
   refine br (tr ?_)
   injection h with h; subst h
   exact ret1_step (v := (.agv [(vI 9), (vI 0), (vB false), (vI 0), (vI 0), (vS []), (vS []), (vS []), (.tre 10000008), (.tre 10000009)])) (by kernel_rfl) (by kernel_rfl) ⟨by kernel_rfl, by kernel_rfl, by kernel_rfl, by kernel_rfl, trivial⟩
   exact ki (bn (next_step (s' := stsL7Expr_X_J0 p1 y6) (wr [] (es (es (es er_nil))) (bs_ (bs_ br_nil))) (OK_sL7Expr_X_J0 p1 y6 _ h)))
   exact ki (bn (next_step (s' := stsL7Expr_X_J0 p1 y6) (wr [] (es (es (es er_nil))) (bs_ (bs_ br_nil))) (OK_sL7Expr_X_J0 p1 y6 _ h)))
 · intro F_sL7Kids_X OK_sL7Kids_X p1 y6 r h
   delta acsL7Expr_X_J0
   refine so ?_
   let a37 : St := (stsL7Expr_X_J0 p1 y6).p [(84, (.ptr 1000000 0))]
   refine st 1 a37 ?_
   refine callg_step ⟨[(1000000, 1000000)], [], [], [], [], [], [], [], []⟩ (m := sL1Below y6.2 14) (S' := fun (y : Int × GL1Cur) => ⟨(85, (vI y.1)) :: a37.env, [(4, [(vI 0), (vI 0), (vB false), (vI 0), (vI 0), (vS []), (vS []), (vS []), (.nil 10), (.nil 6)]), (1000000, bGL1Cur y.2)]⟩) h (OK_sL1Below y6.2 14) (by kernel_rfl) (by kernel_rfl) (by kernel_rfl) (by kernel_rfl) (fun y => by kernel_rfl) (fun y => by kernel_rfl) ?_
   clear h; intro y20 h
   let a38 : St := ⟨(88, (vI p1)) :: (87, (.ptr 1000000 0)) :: (86, (vI (IntKind.wrap .i64 (1 + y20.1)))) :: (85, (vI y20.1)) :: a37.env, [(4, [(vI 0), (vI 0), (vB false), (vI 0), (vI 0), (vS []), (vS []), (vS []), (.nil 10), (.nil 6)]), (1000000, bGL1Cur y20.2)]⟩
   refine st 3 a38 ?_
   refine callg_step ⟨[(1000000, 1000000)], [], [], [], [], [], [(10000000, 41690000)], [], []⟩ (m := F_sL7Kids_X y20.2 p1 2) (S' := fun (y : (List GExpr) × GL1Cur) => ⟨(89, (.tre 41690000)) :: a38.env, [(41690000, [(.trc 10 (y.1.map cGExpr))]), (4, [(vI 0), (vI 0), (vB false), (vI 0), (vI 0), (vS []), (vS []), (vS []), (.nil 10), (.nil 6)]), (1000000, bGL1Cur y.2)]⟩) h (OK_sL7Kids_X y20.2 p1 2) (by kernel_rfl) (by kernel_rfl) (by kernel_rfl) (by kernel_rfl) (fun y => by kernel_rfl) (fun y => by kernel_rfl) ?_
   clear h; intro y21 h
   refine bldv_step (c := [(vI 4), (vI (IntKind.wrap .i64 (1 + y20.1))), (vB false), (vI 0), (vI 0), (vS []), (vS []), (vS []), (.tre 41690000), (.nil 6)]) (s' := ⟨(90, (.agv [(vI 4), (vI (IntKind.wrap .i64 (1 + y20.1))), (vB false), (vI 0), (vI 0), (vS []), (vS []), (vS []), (.tre 41690000), (.nil 6)])) :: (89, (.tre 41690000)) :: a38.env, [(41690000, [(.trc 10 (y21.1.map cGExpr))]), (4, [(vI 0), (vI 0), (vB false), (vI 0), (vI 0), (vS []), (vS []), (vS []), (.nil 10), (.nil 6)]), (1000000, bGL1Cur y21.2)]⟩) (by kernel_rfl) (by kernel_rfl) (by kernel_rfl) ?_
   let a39 : St := ⟨(90, (.agv [(vI 4), (vI (IntKind.wrap .i64 (1 + y20.1))), (vB false), (vI 0), (vI 0), (vS []), (vS []), (vS []), (.tre 41690000), (.nil 6)])) :: (89, (.tre 41690000)) :: a38.env, [(41690000, [(.trc 10 (y21.1.map cGExpr))]), (4, [(vI 4), (vI (IntKind.wrap .i64 (1 + y20.1))), (vB false), (vI 0), (vI 0), (vS []), (vS []), (vS []), (.tre 41690000), (.nil 6)]), (1000000, bGL1Cur y21.2)]⟩
   refine st 1 a39 (nx ?_)
   refine ret_wk (s' := ⟨[(4, (.ptr 4 0))], [(4, [(vI 4), (vI (IntKind.wrap .i64 (1 + y20.1))), (vB false), (vI 0), (vI 0), (vS []), (vS []), (vS []), (.tre 10000008), (.tre 10000009)]), (1000000, bGL1Cur y21.2), (10000009, [(.trc 6 (([] : List GQuery).map cGQuery))]), (10000008, [(.trc 10 (y21.1.map cGExpr))])]⟩) (tw [.nb 4 9 10000009, .rn [(41690000, 10000008)]] (wr [] (es er_nil) (br_cons (c0 := [(vI 4), (vI (IntKind.wrap .i64 (1 + y20.1))), (vB false), (vI 0), (vI 0), (vS []), (vS []), (vS []), (.tre 10000008), (.tre 10000009)]) (by kernel_rfl) (vrs_cons (vr_same (by kernel_rfl) (by kernel_rfl)) (vrs_cons (vr_same (by kernel_rfl) (by kernel_rfl)) (vrs_cons (vr_same (by kernel_rfl) (by kernel_rfl)) (vrs_cons (vr_same (by kernel_rfl) (by kernel_rfl)) (vrs_cons (vr_same (by kernel_rfl) (by kernel_rfl)) (vrs_cons (vr_same (by kernel_rfl) (by kernel_rfl)) (vrs_cons (vr_same (by kernel_rfl) (by kernel_rfl)) (vrs_cons (vr_same (by kernel_rfl) (by kernel_rfl)) (vrs_cons (vr_same (by kernel_rfl) (by kernel_rfl)) (vrs_cons (vr_same (by kernel_rfl) (by kernel_rfl)) (vrs_nil))))))))))) (br_cons (c0 := [(.d (.sl 1 (y21.2.b.map cU8))), (vI y21.2.i), (vI y21.2.h)]) (by kernel_rfl) (vrs_cons (vr_same (by kernel_rfl) (by kernel_rfl)) (vrs_cons (vr_same (by kernel_rfl) (by kernel_rfl)) (vrs_cons (vr_same (by kernel_rfl) (by kernel_rfl)) (vrs_nil)))) (bs_ (bs_ br_nil)))))) ?_
   injection h with h; subst h
   exact ret1_step (v := (.agv [(vI 4), (vI (IntKind.wrap .i64 (1 + y20.1))), (vB false), (vI 0), (vI 0), (vS []), (vS []), (vS []), (.tre 10000008), (.tre 10000009)])) (by kernel_rfl) (by kernel_rfl) ⟨by kernel_rfl, by kernel_rfl, by kernel_rfl, by kernel_rfl, trivial⟩
 · intro F_sL7Kids_X_L0 OK_sL7Kids_X_L0 p0 p1 p2 r h
   refine acalls_of_fn trsL7Kids_X (Nat.le_of_ble_eq_true rfl) (by intro n hn; simp at hn; simp only [NX]; omega) ?_
   show avc Try.prog acsL7Kids_X (qsL7Kids_X _) ⟨[(0, (.ptr 1000000 0)), (1, (vI p1)), (2, (vI p2))], [(1000000, bGL1Cur p0)]⟩
   delta acsL7Kids_X
   refine so ?_
   let a0 : St := ⟨[(6, (.nil 10)), (0, (.ptr 1000000 0)), (1, (vI p1)), (2, (vI p2))], [(1000000, bGL1Cur p0)]⟩
   refine st 1 a0 (nx (so (bslT_step (l := ([] : List GExpr)) (f := cGExpr) (g := oGExpr) [] (s' := ⟨(9, (.tre 9)) :: a0.env, [(9, [(.trc 10 (([] : List GExpr).map cGExpr))]), (1000000, bGL1Cur p0)]⟩) (by kernel_rfl) cGExpr_eq (by kernel_rfl) (by kernel_rfl) ?_)))
   let a1 : St := ⟨(7, (.tre 9)) :: (9, (.tre 9)) :: a0.env, [(9, [(.trc 10 (([] : List GExpr).map cGExpr))]), (1000000, bGL1Cur p0)]⟩
   refine st 1 a1 (nx (si (so ?_)))
   let a2 : St := a1.p [(8, (vI 0))]
   exact st 1 a2 (nx (bi (loop_go (s' := stsL7Kids_X_L0 p1 p2 0 p0.b p0.i p0.h ([] : List GExpr)) (tw [.rn [(9, 60012000)]] (wr [] (es (es (es (es (es er_nil))))) (bs_ (bs_ br_nil)))) (OK_sL7Kids_X_L0 p1 p2 0 p0.b p0.i p0.h ([] : List GExpr) _ h))))
 · intro F_sL7Expr_X F_sL7Kids_X_L0 OK_sL7Expr_X OK_sL7Kids_X_L0 p1 p2 x8 b1000000_0 b1000000_1 b1000000_2 b60012000_0 r h
   delta acsL7Kids_X_L0
   refine loop_unroll (si (so ?_))
   let a3 : St := (stsL7Kids_X_L0 p1 p2 x8 b1000000_0 b1000000_1 b1000000_2 b60012000_0).p [(12, (vB (decide (x8 < p2)))), (11, (vI p2)), (10, (vI x8))]
   refine st 3 a3 (nx ?_)
   refine cd h (fun h => ?_) fun h => ?_
   refine ki (xi (si (bi (oi ?_))))
   let a4 : St := a3.p [(18, (vI (IntKind.wrap .i64 (p1 - 1)))), (17, (vI p1)), (16, (.ptr 1000000 0)), (15, (.tre 60012000))]
   refine st 4 a4 ?_
   refine callg_step ⟨[(1000000, 1000000)], [], [], [], [], [], [(10000008, 40290008), (10000009, 40290009)], [], []⟩ (m := F_sL7Expr_X (GL1Cur.mk b1000000_0 b1000000_1 b1000000_2) (IntKind.wrap .i64 (p1 - 1))) (S' := fun (y : GExpr × GL1Cur) => ⟨(19, (.agv [(vI y.1.kind), (vI y.1.op), (vB y.1.not_), (vI y.1.value.kind), (vI y.1.value.num), (vS y.1.value.text), (vS y.1.qual), (vS y.1.name), (.tre 40290008), (.tre 40290009)])) :: a4.env, [(40290008, [(.trc 10 (y.1.kids.map cGExpr))]), (40290009, [(.trc 6 (y.1.sub.map cGQuery))]), (1000000, bGL1Cur y.2), (60012000, [(.trc 10 (b60012000_0.map cGExpr))])]⟩) h (OK_sL7Expr_X (GL1Cur.mk b1000000_0 b1000000_1 b1000000_2) (IntKind.wrap .i64 (p1 - 1))) (by kernel_rfl) (by kernel_rfl) (by kernel_rfl) (by kernel_rfl) (fun y => by kernel_rfl) (fun y => by kernel_rfl) ?_
   clear h; intro y1 h
   refine bslT_step (l := ([y1.1] : List GExpr)) (f := cGExpr) (g := oGExpr) [40290008, 40290009] (s' := ⟨(20, (.tre 20)) :: (19, (.agv [(vI y1.1.kind), (vI y1.1.op), (vB y1.1.not_), (vI y1.1.value.kind), (vI y1.1.value.num), (vS y1.1.value.text), (vS y1.1.qual), (vS y1.1.name), (.tre 40290008), (.tre 40290009)])) :: a4.env, [(20, [(.trc 10 (([y1.1] : List GExpr).map cGExpr))]), (40290008, [.trd]), (40290009, [.trd]), (1000000, bGL1Cur y1.2), (60012000, [(.trc 10 (b60012000_0.map cGExpr))])]⟩) (by kernel_rfl) cGExpr_eq (by kernel_rfl) (by kernel_rfl) ?_
   refine appTT_step (l := b60012000_0) (m := ([y1.1] : List GExpr)) (f := cGExpr) [60012000] [20] (S' := fun y => ⟨(21, (.tre 21)) :: (20, (.tre 20)) :: (19, (.agv [(vI y1.1.kind), (vI y1.1.op), (vB y1.1.not_), (vI y1.1.value.kind), (vI y1.1.value.num), (vS y1.1.value.text), (vS y1.1.qual), (vS y1.1.name), (.tre 40290008), (.tre 40290009)])) :: a4.env, [(21, [(.trc 10 (y.map cGExpr))]), (20, [.trd]), (40290008, [.trd]), (40290009, [.trd]), (1000000, bGL1Cur y1.2), (60012000, [.trd])]⟩) h (by kernel_rfl) (by kernel_rfl) (by kernel_rfl) (by kernel_rfl) (fun y => by kernel_rfl) ?_
   clear h; intro y2 h
   let a5 : St := ⟨(7, (.tre 21)) :: (21, (.tre 21)) :: (20, (.tre 20)) :: (19, (.agv [(vI y1.1.kind), (vI y1.1.op), (vB y1.1.not_), (vI y1.1.value.kind), (vI y1.1.value.num), (vS y1.1.value.text), (vS y1.1.qual), (vS y1.1.name), (.tre 40290008), (.tre 40290009)])) :: a4.env, [(21, [(.trc 10 (y2.map cGExpr))]), (20, [.trd]), (40290008, [.trd]), (40290009, [.trd]), (1000000, bGL1Cur y1.2), (60012000, [.trd])]⟩
   refine st 1 a5 (ni (bn (xi (oi ?_))))
   let a6 : St := a5.p [(8, (vI (IntKind.wrap .i64 (x8 + 1)))), (14, (vI (IntKind.wrap .i64 (x8 + 1)))), (13, (vI x8))]
   refine st 3 a6 (ni ?_)
   exact loop_back (s' := stsL7Kids_X_L0 p1 p2 (IntKind.wrap .i64 (x8 + 1)) y1.2.b y1.2.i y1.2.h y2) (tw [.rn [(21, 60012000)]] (wr [] (es (es (es (es (es er_nil))))) (bs_ (bs_ br_nil)))) (OK_sL7Kids_X_L0 p1 p2 (IntKind.wrap .i64 (x8 + 1)) y1.2.b y1.2.i y1.2.h y2 _ h)
   refine ei (te (te (bh (xi (so ?_)))))
   let a7 : St := a3.p [(6, (.tre 60012000)), (22, (.tre 60012000))]
   refine st 2 a7 (nx ?_)
   refine ret_wk (s' := ⟨[(6, (.tre 10000000))], [(1000000, bGL1Cur (GL1Cur.mk b1000000_0 b1000000_1 b1000000_2)), (10000000, [(.trc 10 (b60012000_0.map cGExpr))])]⟩) (tw [.rn [(60012000, 10000000)]] (wr [] (es er_nil) (br_cons (c0 := [(.d (.sl 1 (b1000000_0.map cU8))), (vI b1000000_1), (vI b1000000_2)]) (by kernel_rfl) (vrs_cons (vr_same (by kernel_rfl) (by kernel_rfl)) (vrs_cons (vr_same (by kernel_rfl) (by kernel_rfl)) (vrs_cons (vr_same (by kernel_rfl) (by kernel_rfl)) (vrs_nil)))) (bs_ br_nil)))) ?_
   injection h with h; subst h
   exact ret1_step (v := (.tre 10000000)) (by kernel_rfl) (by kernel_rfl) ⟨by kernel_rfl, by kernel_rfl, by kernel_rfl, trivial⟩
 · intro F_sL7Query_X_L0 OK_sL7Query_X_L0 p0 p1 r h
   refine acalls_of_fn trsL7Query_X (Nat.le_of_ble_eq_true rfl) (by intro n hn; simp at hn; simp only [NX]; omega) ?_
   show avc Try.prog acsL7Query_X (qsL7Query_X _) ⟨[(0, (.ptr 1000000 0)), (1, (vI p1))], [(1000000, bGL1Cur p0)]⟩
   delta acsL7Query_X
   refine so ?_
   let a0 : St := ⟨[(4, (.ptr 4 0)), (0, (.ptr 1000000 0)), (1, (vI p1))], [(4, [(vB false), (.nil 13), (.nil 3), (.nil 10), (.nil 11), (vI 0)]), (1000000, bGL1Cur p0)]⟩
   refine st 1 a0 (nx (so ?_))
   let a1 : St := a0.p [(11, (.ptr 1000000 0))]
   refine st 1 a1 (callg_step ⟨[(1000000, 1000000)], [], [], [], [], [], [], [], []⟩ (m := sL1Once p0 4) (S' := fun (y : Bool × GL1Cur) => ⟨(12, (vB y.1)) :: a1.env, [(4, [(vB false), (.nil 13), (.nil 3), (.nil 10), (.nil 11), (vI 0)]), (1000000, bGL1Cur y.2)]⟩) h (OK_sL1Once p0 4) (by kernel_rfl) (by kernel_rfl) (by kernel_rfl) (by kernel_rfl) (fun y => by kernel_rfl) (fun y => by kernel_rfl) ?_)
   clear h; intro y1 h
   refine bldv_step (c := [(vB y1.1), (.nil 13), (.nil 3), (.nil 10), (.nil 11), (vI (-1))]) (s' := ⟨(13, (.agv [(vB y1.1), (.nil 13), (.nil 3), (.nil 10), (.nil 11), (vI (-1))])) :: (12, (vB y1.1)) :: a1.env, [(4, [(vB false), (.nil 13), (.nil 3), (.nil 10), (.nil 11), (vI 0)]), (1000000, bGL1Cur y1.2)]⟩) (by kernel_rfl) (by kernel_rfl) (by kernel_rfl) ?_
   let a2 : St := ⟨(5, (.ptr 5 0)) :: (13, (.agv [(vB y1.1), (.nil 13), (.nil 3), (.nil 10), (.nil 11), (vI (-1))])) :: (12, (vB y1.1)) :: a1.env, [(5, [(vB y1.1), (.nil 13), (.nil 3), (.nil 10), (.nil 11), (vI (-1))]), (4, [(vB false), (.nil 13), (.nil 3), (.nil 10), (.nil 11), (vI 0)]), (1000000, bGL1Cur y1.2)]⟩
   refine st 2 a2 (nx (so ?_))
   let a3 : St := a2.p [(14, (.ptr 1000000 0))]
   refine st 1 a3 ?_
   refine callg_step ⟨[(1000000, 1000000)], [], [], [], [], [], [], [], []⟩ (m := sL1Below y1.2 2) (S' := fun (y : Int × GL1Cur) => ⟨(15, (vI y.1)) :: a3.env, [(5, [(vB y1.1), (.nil 13), (.nil 3), (.nil 10), (.nil 11), (vI (-1))]), (4, [(vB false), (.nil 13), (.nil 3), (.nil 10), (.nil 11), (vI 0)]), (1000000, bGL1Cur y.2)]⟩) h (OK_sL1Below y1.2 2) (by kernel_rfl) (by kernel_rfl) (by kernel_rfl) (by kernel_rfl) (fun y => by kernel_rfl) (fun y => by kernel_rfl) ?_
   clear h; intro y2 h
   let a4 : St := ⟨(6, (vI (IntKind.wrap .i64 (1 + y2.1)))) :: (16, (vI (IntKind.wrap .i64 (1 + y2.1)))) :: (15, (vI y2.1)) :: a3.env, [(5, [(vB y1.1), (.nil 13), (.nil 3), (.nil 10), (.nil 11), (vI (-1))]), (4, [(vB false), (.nil 13), (.nil 3), (.nil 10), (.nil 11), (vI 0)]), (1000000, bGL1Cur y2.2)]⟩
   refine st 2 a4 (nx (si (so ?_)))
   let a5 : St := a4.p [(7, (vI 0))]
   refine st 1 a5 (nx (bi ?_))
   exact loop_go (s' := stsL7Query_X_L0 p1 y2 y1 0 y2.2.b y2.2.i (y2.2.h, ([] : List GItem))) (tw [.nb 5 1 60021000] (wr [] (es (es (es (es (es (es er_nil)))))) (bs_ (bs_ (bs_ (bs_ br_nil)))))) (OK_sL7Query_X_L0 p1 y2 y1 0 y2.2.b y2.2.i (y2.2.h, ([] : List GItem)) _ h)
 · intro F_sL7Expr_X F_sL7Query_X_L3 F_sL7Query_X_J2 F_sL7Query_X_J1 OK_sL7Expr_X OK_sL7Query_X_L3 OK_sL7Query_X_J2 OK_sL7Query_X_J1 p1 y2 y1 x7 b1000000_0 b1000000_1 kb1000000_2 r h
   delta acsL7Query_X_L0
   refine loop_unroll (si (so ?_))
   let a6 : St := (stsL7Query_X_L0 p1 y2 y1 x7 b1000000_0 b1000000_1 (kb1000000_2.1, kb1000000_2.2)).p [(19, (vB (decide (x7 < (IntKind.wrap .i64 (1 + y2.1)))))), (18, (vI (IntKind.wrap .i64 (1 + y2.1)))), (17, (vI x7))]
   refine st 3 a6 (nx ?_)
   refine cd h (fun h => ?_) fun h => ?_
   refine ki (xi (si (bi (so ?_))))
   let a7 : St := a6.p [(22, (.ptr 1000000 0))]
   refine st 1 a7 ?_
   refine callg_step ⟨[(1000000, 1000000)], [], [], [], [], [], [], [], []⟩ (m := sL1Below (GL1Cur.mk b1000000_0 b1000000_1 kb1000000_2.1) 5) (S' := fun (y : Int × GL1Cur) => ⟨(23, (vI y.1)) :: a7.env, [(4, [(vB false), (.nil 13), (.nil 3), (.nil 10), (.nil 11), (vI 0)]), (5, [(vB y1.1), (.tre 60021000), (.nil 3), (.nil 10), (.nil 11), (vI (-1))]), (1000000, bGL1Cur y.2), (60021000, [(.trc 13 (kb1000000_2.2.map cGItem))])]⟩) h (OK_sL1Below (GL1Cur.mk b1000000_0 b1000000_1 kb1000000_2.1) 5) (by kernel_rfl) (by kernel_rfl) (by kernel_rfl) (by kernel_rfl) (fun y => by kernel_rfl) (fun y => by kernel_rfl) ?_
   clear h; intro y3 h
   refine nx (bi (so ?_))
   let a8 : St := ⟨(39, (vB (decide (y3.1 = 0)))) :: (40, (vB (decide (y3.1 = 0)))) :: (23, (vI y3.1)) :: a7.env, [(4, [(vB false), (.nil 13), (.nil 3), (.nil 10), (.nil 11), (vI 0)]), (5, [(vB y1.1), (.tre 60021000), (.nil 3), (.nil 10), (.nil 11), (vI (-1))]), (1000000, bGL1Cur y3.2), (60021000, [(.trc 13 (kb1000000_2.2.map cGItem))])]⟩
   refine st 2 a8 (nx ?_)
   refine cd h (fun h => ?_) fun h => ?_
   refine oi ?_
   let a9 : St := a8.p [(42, (.tre 60021000)), (41, (.ptr 5 1))]
   refine st 2 a9 (bldv_step (c := [(vB true), (vS []), (vI 0), (vI 0), (vB false), (vI 0), (vI 0), (vS []), (vS []), (vS []), (.nil 10), (.nil 6), (vS [])]) (s' := ⟨(43, (.agv [(vB true), (vS []), (vI 0), (vI 0), (vB false), (vI 0), (vI 0), (vS []), (vS []), (vS []), (.nil 10), (.nil 6), (vS [])])) :: a9.env, a9.bx⟩) (by kernel_rfl) (by kernel_rfl) (by kernel_rfl) ?_)
   refine bslT_step (l := ([(GItem.mk true [] (GExpr.mk 0 0 false (GValue.mk 0 0 []) [] [] ([] : List GExpr) ([] : List GQuery)) [])] : List GItem)) (f := cGItem) (g := oGItem) [] (s' := ⟨(44, (.tre 44)) :: (43, (.agv [(vB true), (vS []), (vI 0), (vI 0), (vB false), (vI 0), (vI 0), (vS []), (vS []), (vS []), (.nil 10), (.nil 6), (vS [])])) :: a9.env, [(44, [(.trc 13 (([(GItem.mk true [] (GExpr.mk 0 0 false (GValue.mk 0 0 []) [] [] ([] : List GExpr) ([] : List GQuery)) [])] : List GItem).map cGItem))]), (4, [(vB false), (.nil 13), (.nil 3), (.nil 10), (.nil 11), (vI 0)]), (5, [(vB y1.1), (.tre 60021000), (.nil 3), (.nil 10), (.nil 11), (vI (-1))]), (1000000, bGL1Cur y3.2), (60021000, [(.trc 13 (kb1000000_2.2.map cGItem))])]⟩) (by kernel_rfl) cGItem_eq (by kernel_rfl) (by kernel_rfl) ?_
   refine appTT_step (l := kb1000000_2.2) (m := ([(GItem.mk true [] (GExpr.mk 0 0 false (GValue.mk 0 0 []) [] [] ([] : List GExpr) ([] : List GQuery)) [])] : List GItem)) (f := cGItem) [60021000] [44] (S' := fun y => ⟨(45, (.tre 45)) :: (44, (.tre 44)) :: (43, (.agv [(vB true), (vS []), (vI 0), (vI 0), (vB false), (vI 0), (vI 0), (vS []), (vS []), (vS []), (.nil 10), (.nil 6), (vS [])])) :: a9.env, [(45, [(.trc 13 (y.map cGItem))]), (44, [.trd]), (4, [(vB false), (.nil 13), (.nil 3), (.nil 10), (.nil 11), (vI 0)]), (5, [(vB y1.1), (.tre 60021000), (.nil 3), (.nil 10), (.nil 11), (vI (-1))]), (1000000, bGL1Cur y3.2), (60021000, [.trd])]⟩) h (by kernel_rfl) (by kernel_rfl) (by kernel_rfl) (by kernel_rfl) (fun y => by kernel_rfl) ?_
   clear h; intro y4 h
   let a10 : St := ⟨(46, (.ptr 5 1)) :: (45, (.tre 45)) :: (44, (.tre 44)) :: (43, (.agv [(vB true), (vS []), (vI 0), (vI 0), (vB false), (vI 0), (vI 0), (vS []), (vS []), (vS []), (.nil 10), (.nil 6), (vS [])])) :: a9.env, [(45, [(.trc 13 (y4.map cGItem))]), (44, [.trd]), (4, [(vB false), (.nil 13), (.nil 3), (.nil 10), (.nil 11), (vI 0)]), (5, [(vB y1.1), (.tre 45), (.nil 3), (.nil 10), (.nil 11), (vI (-1))]), (1000000, bGL1Cur y3.2), (60021000, [.trd])]⟩
   refine st 2 a10 (ni (bn (bn ?_)))
   exact next_step (s' := stsL7Query_X_J1 p1 y2 x7 y1 y3.2.b y3.2.i (y3.2.h, y4)) (tw [.rn [(45, 60095000)]] (wr [] (es (es (es (es (es (es er_nil)))))) (bs_ (bs_ (bs_ (bs_ br_nil)))))) (OK_sL7Query_X_J1 p1 y2 x7 y1 y3.2.b y3.2.i (y3.2.h, y4) _ h)
   refine so ?_
   let a11 : St := a8.p [(47, (vB (decide (y3.1 = 1)))), (48, (vB (decide (y3.1 = 1))))]
   refine st 2 a11 (nx ?_)
   refine cd h (fun h => ?_) fun h => ?_
   refine dops_in ?_
   let a12 : St := a11.p [(51, (.ptr 1000000 0)), (50, (.tre 60021000)), (49, (.ptr 5 1))]
   refine dsts_ok 3 (s' := a12) (by kernel_rfl) (dbsl_step (l := ([[116], [117]] : List (List UInt8))) (f := cStr) (g := cStr) (by kernel_rfl) (fun _ => rfl) ?_)
   refine dcallg_step ⟨[(1000000, 1000000)], [], [], [], [], [], [], [], []⟩ [] [] (m := sL1Pick y3.2 ([[116], [117]] : List (List UInt8))) (S' := fun (y : (List UInt8) × GL1Cur) => ⟨(53, (vS y.1)) :: (52, (.osl 52 9 1 (([[116], [117]] : List (List UInt8)).map cStr))) :: a12.env, [(4, [(vB false), (.nil 13), (.nil 3), (.nil 10), (.nil 11), (vI 0)]), (5, [(vB y1.1), (.tre 60021000), (.nil 3), (.nil 10), (.nil 11), (vI (-1))]), (1000000, bGL1Cur y.2), (60021000, [(.trc 13 (kb1000000_2.2.map cGItem))])]⟩) h (OK_sL1Pick y3.2 ([[116], [117]] : List (List UInt8))) (by kernel_rfl) (by kernel_rfl) (by kernel_rfl) (by kernel_rfl) (fun y => by kernel_rfl) (fun y => by kernel_rfl) ?_
   clear h; intro y8 h
   refine dbldv_step (c := [(vB true), (vS y8.1), (vI 0), (vI 0), (vB false), (vI 0), (vI 0), (vS []), (vS []), (vS []), (.nil 10), (.nil 6), (vS [])]) (s' := ⟨(54, (.agv [(vB true), (vS y8.1), (vI 0), (vI 0), (vB false), (vI 0), (vI 0), (vS []), (vS []), (vS []), (.nil 10), (.nil 6), (vS [])])) :: (53, (vS y8.1)) :: (52, (.osl 52 9 1 (([[116], [117]] : List (List UInt8)).map cStr))) :: a12.env, [(4, [(vB false), (.nil 13), (.nil 3), (.nil 10), (.nil 11), (vI 0)]), (5, [(vB y1.1), (.tre 60021000), (.nil 3), (.nil 10), (.nil 11), (vI (-1))]), (1000000, bGL1Cur y8.2), (60021000, [(.trc 13 (kb1000000_2.2.map cGItem))])]⟩) (by kernel_rfl) (by kernel_rfl) (by kernel_rfl) ?_
   refine dbslT_step (l := ([(GItem.mk true y8.1 (GExpr.mk 0 0 false (GValue.mk 0 0 []) [] [] ([] : List GExpr) ([] : List GQuery)) [])] : List GItem)) (f := cGItem) (g := oGItem) [] (s' := ⟨(55, (.tre 55)) :: (54, (.agv [(vB true), (vS y8.1), (vI 0), (vI 0), (vB false), (vI 0), (vI 0), (vS []), (vS []), (vS []), (.nil 10), (.nil 6), (vS [])])) :: (53, (vS y8.1)) :: (52, (.osl 52 9 1 (([[116], [117]] : List (List UInt8)).map cStr))) :: a12.env, [(55, [(.trc 13 (([(GItem.mk true y8.1 (GExpr.mk 0 0 false (GValue.mk 0 0 []) [] [] ([] : List GExpr) ([] : List GQuery)) [])] : List GItem).map cGItem))]), (4, [(vB false), (.nil 13), (.nil 3), (.nil 10), (.nil 11), (vI 0)]), (5, [(vB y1.1), (.tre 60021000), (.nil 3), (.nil 10), (.nil 11), (vI (-1))]), (1000000, bGL1Cur y8.2), (60021000, [(.trc 13 (kb1000000_2.2.map cGItem))])]⟩) (by kernel_rfl) cGItem_eq (by kernel_rfl) (by kernel_rfl) ?_
   refine dappTT_step (l := kb1000000_2.2) (m := ([(GItem.mk true y8.1 (GExpr.mk 0 0 false (GValue.mk 0 0 []) [] [] ([] : List GExpr) ([] : List GQuery)) [])] : List GItem)) (f := cGItem) [60021000] [55] (S' := fun y => ⟨(56, (.tre 56)) :: (55, (.tre 55)) :: (54, (.agv [(vB true), (vS y8.1), (vI 0), (vI 0), (vB false), (vI 0), (vI 0), (vS []), (vS []), (vS []), (.nil 10), (.nil 6), (vS [])])) :: (53, (vS y8.1)) :: (52, (.osl 52 9 1 (([[116], [117]] : List (List UInt8)).map cStr))) :: a12.env, [(56, [(.trc 13 (y.map cGItem))]), (55, [.trd]), (4, [(vB false), (.nil 13), (.nil 3), (.nil 10), (.nil 11), (vI 0)]), (5, [(vB y1.1), (.tre 60021000), (.nil 3), (.nil 10), (.nil 11), (vI (-1))]), (1000000, bGL1Cur y8.2), (60021000, [.trd])]⟩) h (by kernel_rfl) (by kernel_rfl) (by kernel_rfl) (by kernel_rfl) (fun y => by kernel_rfl) ?_
   clear h; intro y9 h
   let a13 : St := ⟨(57, (.ptr 5 1)) :: (56, (.tre 56)) :: (55, (.tre 55)) :: (54, (.agv [(vB true), (vS y8.1), (vI 0), (vI 0), (vB false), (vI 0), (vI 0), (vS []), (vS []), (vS []), (.nil 10), (.nil 6), (vS [])])) :: (53, (vS y8.1)) :: (52, (.osl 52 9 1 (([[116], [117]] : List (List UInt8)).map cStr))) :: a12.env, [(56, [(.trc 13 (y9.map cGItem))]), (55, [.trd]), (4, [(vB false), (.nil 13), (.nil 3), (.nil 10), (.nil 11), (vI 0)]), (5, [(vB y1.1), (.tre 56), (.nil 3), (.nil 10), (.nil 11), (vI (-1))]), (1000000, bGL1Cur y8.2), (60021000, [.trd])]⟩
   refine dsts_ok 2 (s' := a13) (by kernel_rfl) (dnil_in (by kernel_rfl) (by kernel_rfl) (bn (bn ?_)))
   exact next_step (s' := stsL7Query_X_J1 p1 y2 x7 y1 y8.2.b y8.2.i (y8.2.h, y9)) (tw [.rn [(56, 60095000)]] (wr [] (es (es (es (es (es (es er_nil)))))) (bs_ (bs_ (bs_ (bs_ br_nil)))))) (OK_sL7Query_X_J1 p1 y2 x7 y1 y8.2.b y8.2.i (y8.2.h, y9) _ h)
   refine so ?_
   let a14 : St := a11.p [(25, (vI p1)), (24, (.ptr 1000000 0))]
   refine st 2 a14 ?_
   refine callg_step ⟨[(1000000, 1000000)], [], [], [], [], [], [(10000008, 40710008), (10000009, 40710009)], [], []⟩ (m := F_sL7Expr_X y3.2 p1) (S' := fun (y : GExpr × GL1Cur) => ⟨(26, (.agv [(vI y.1.kind), (vI y.1.op), (vB y.1.not_), (vI y.1.value.kind), (vI y.1.value.num), (vS y.1.value.text), (vS y.1.qual), (vS y.1.name), (.tre 40710008), (.tre 40710009)])) :: a14.env, [(40710008, [(.trc 10 (y.1.kids.map cGExpr))]), (40710009, [(.trc 6 (y.1.sub.map cGQuery))]), (4, [(vB false), (.nil 13), (.nil 3), (.nil 10), (.nil 11), (vI 0)]), (5, [(vB y1.1), (.tre 60021000), (.nil 3), (.nil 10), (.nil 11), (vI (-1))]), (1000000, bGL1Cur y.2), (60021000, [(.trc 13 (kb1000000_2.2.map cGItem))])]⟩) h (OK_sL7Expr_X y3.2 p1) (by kernel_rfl) (by kernel_rfl) (by kernel_rfl) (by kernel_rfl) (fun y => by kernel_rfl) (fun y => by kernel_rfl) ?_
   clear h; intro y10 h
   refine bldv_step (c := [(vB false), (vS []), (vI y10.1.kind), (vI y10.1.op), (vB y10.1.not_), (vI y10.1.value.kind), (vI y10.1.value.num), (vS y10.1.value.text), (vS y10.1.qual), (vS y10.1.name), (.tre 40710008), (.tre 40710009), (vS [])]) (s' := ⟨(27, (.agv [(vB false), (vS []), (vI y10.1.kind), (vI y10.1.op), (vB y10.1.not_), (vI y10.1.value.kind), (vI y10.1.value.num), (vS y10.1.value.text), (vS y10.1.qual), (vS y10.1.name), (.tre 40710008), (.tre 40710009), (vS [])])) :: (26, (.agv [(vI y10.1.kind), (vI y10.1.op), (vB y10.1.not_), (vI y10.1.value.kind), (vI y10.1.value.num), (vS y10.1.value.text), (vS y10.1.qual), (vS y10.1.name), (.tre 40710008), (.tre 40710009)])) :: a14.env, [(40710008, [(.trc 10 (y10.1.kids.map cGExpr))]), (40710009, [(.trc 6 (y10.1.sub.map cGQuery))]), (4, [(vB false), (.nil 13), (.nil 3), (.nil 10), (.nil 11), (vI 0)]), (5, [(vB y1.1), (.tre 60021000), (.nil 3), (.nil 10), (.nil 11), (vI (-1))]), (1000000, bGL1Cur y10.2), (60021000, [(.trc 13 (kb1000000_2.2.map cGItem))])]⟩) (by kernel_rfl) (by kernel_rfl) (by kernel_rfl) ?_
   let a15 : St := ⟨(8, (.ptr 8 0)) :: (27, (.agv [(vB false), (vS []), (vI y10.1.kind), (vI y10.1.op), (vB y10.1.not_), (vI y10.1.value.kind), (vI y10.1.value.num), (vS y10.1.value.text), (vS y10.1.qual), (vS y10.1.name), (.tre 40710008), (.tre 40710009), (vS [])])) :: (26, (.agv [(vI y10.1.kind), (vI y10.1.op), (vB y10.1.not_), (vI y10.1.value.kind), (vI y10.1.value.num), (vS y10.1.value.text), (vS y10.1.qual), (vS y10.1.name), (.tre 40710008), (.tre 40710009)])) :: a14.env, [(8, [(vB false), (vS []), (vI y10.1.kind), (vI y10.1.op), (vB y10.1.not_), (vI y10.1.value.kind), (vI y10.1.value.num), (vS y10.1.value.text), (vS y10.1.qual), (vS y10.1.name), (.tre 40710008), (.tre 40710009), (vS [])]), (40710008, [(.trc 10 (y10.1.kids.map cGExpr))]), (40710009, [(.trc 6 (y10.1.sub.map cGQuery))]), (4, [(vB false), (.nil 13), (.nil 3), (.nil 10), (.nil 11), (vI 0)]), (5, [(vB y1.1), (.tre 60021000), (.nil 3), (.nil 10), (.nil 11), (vI (-1))]), (1000000, bGL1Cur y10.2), (60021000, [(.trc 13 (kb1000000_2.2.map cGItem))])]⟩
   refine st 2 a15 (nx (si (so ?_)))
   let a16 : St := a15.p [(28, (.ptr 1000000 0))]
   refine st 1 a16 ?_
   refine callg_step ⟨[(1000000, 1000000)], [], [], [], [], [], [], [], []⟩ (m := sL1Once y10.2 2) (S' := fun (y : Bool × GL1Cur) => ⟨(29, (vB y.1)) :: a16.env, [(8, [(vB false), (vS []), (vI y10.1.kind), (vI y10.1.op), (vB y10.1.not_), (vI y10.1.value.kind), (vI y10.1.value.num), (vS y10.1.value.text), (vS y10.1.qual), (vS y10.1.name), (.tre 40710008), (.tre 40710009), (vS [])]), (40710008, [(.trc 10 (y10.1.kids.map cGExpr))]), (40710009, [(.trc 6 (y10.1.sub.map cGQuery))]), (4, [(vB false), (.nil 13), (.nil 3), (.nil 10), (.nil 11), (vI 0)]), (5, [(vB y1.1), (.tre 60021000), (.nil 3), (.nil 10), (.nil 11), (vI (-1))]), (1000000, bGL1Cur y.2), (60021000, [(.trc 13 (kb1000000_2.2.map cGItem))])]⟩) h (OK_sL1Once y10.2 2) (by kernel_rfl) (by kernel_rfl) (by kernel_rfl) (by kernel_rfl) (fun y => by kernel_rfl) (fun y => by kernel_rfl) ?_
   clear h; intro y11 h
   refine nx ?_
   refine cd h (fun h => ?_) fun h => ?_
   refine oi ?_
   let a17 : St := ⟨(30, (.ptr 1000000 0)) :: (29, (vB y11.1)) :: a16.env, [(8, [(vB false), (vS []), (vI y10.1.kind), (vI y10.1.op), (vB y10.1.not_), (vI y10.1.value.kind), (vI y10.1.value.num), (vS y10.1.value.text), (vS y10.1.qual), (vS y10.1.name), (.tre 40710008), (.tre 40710009), (vS [])]), (40710008, [(.trc 10 (y10.1.kids.map cGExpr))]), (40710009, [(.trc 6 (y10.1.sub.map cGQuery))]), (4, [(vB false), (.nil 13), (.nil 3), (.nil 10), (.nil 11), (vI 0)]), (5, [(vB y1.1), (.tre 60021000), (.nil 3), (.nil 10), (.nil 11), (vI (-1))]), (1000000, bGL1Cur y11.2), (60021000, [(.trc 13 (kb1000000_2.2.map cGItem))])]⟩
   refine st 1 a17 ?_
   refine callg_step ⟨[(1000000, 1000000)], [], [], [], [], [], [], [], []⟩ (m := sL2Name y11.2) (S' := fun (y : (List UInt8) × GL1Cur) => ⟨(31, (vS y.1)) :: a17.env, [(8, [(vB false), (vS []), (vI y10.1.kind), (vI y10.1.op), (vB y10.1.not_), (vI y10.1.value.kind), (vI y10.1.value.num), (vS y10.1.value.text), (vS y10.1.qual), (vS y10.1.name), (.tre 40710008), (.tre 40710009), (vS [])]), (40710008, [(.trc 10 (y10.1.kids.map cGExpr))]), (40710009, [(.trc 6 (y10.1.sub.map cGQuery))]), (4, [(vB false), (.nil 13), (.nil 3), (.nil 10), (.nil 11), (vI 0)]), (5, [(vB y1.1), (.tre 60021000), (.nil 3), (.nil 10), (.nil 11), (vI (-1))]), (1000000, bGL1Cur y.2), (60021000, [(.trc 13 (kb1000000_2.2.map cGItem))])]⟩) h (OK_sL2Name y11.2) (by kernel_rfl) (by kernel_rfl) (by kernel_rfl) (by kernel_rfl) (fun y => by kernel_rfl) (fun y => by kernel_rfl) ?_
   clear h; intro y12 h
   let a18 : St := ⟨(32, (.ptr 8 12)) :: (31, (vS y12.1)) :: a17.env, [(8, [(vB false), (vS []), (vI y10.1.kind), (vI y10.1.op), (vB y10.1.not_), (vI y10.1.value.kind), (vI y10.1.value.num), (vS y10.1.value.text), (vS y10.1.qual), (vS y10.1.name), (.tre 40710008), (.tre 40710009), (vS y12.1)]), (40710008, [(.trc 10 (y10.1.kids.map cGExpr))]), (40710009, [(.trc 6 (y10.1.sub.map cGQuery))]), (4, [(vB false), (.nil 13), (.nil 3), (.nil 10), (.nil 11), (vI 0)]), (5, [(vB y1.1), (.tre 60021000), (.nil 3), (.nil 10), (.nil 11), (vI (-1))]), (1000000, bGL1Cur y12.2), (60021000, [(.trc 13 (kb1000000_2.2.map cGItem))])]⟩
   refine st 2 a18 (ni ?_)
   exact next_step (s' := stsL7Query_X_J2 p1 y2 x7 y1 y10 kb1000000_2.2 (y12.1, (y12.2.b, (y12.2.i, y12.2.h)))) (tw [.rn [(60021000, 60087000), (40710008, 60087001), (40710009, 60087002)]] (wr [] (es (es (es (es (es (es (es er_nil))))))) (bs_ (bs_ (bs_ (bs_ (bs_ (bs_ (bs_ br_nil))))))))) (OK_sL7Query_X_J2 p1 y2 x7 y1 y10 kb1000000_2.2 (y12.1, (y12.2.b, (y12.2.i, y12.2.h))) _ h)
   refine ki ?_
   exact next_step (s' := stsL7Query_X_J2 p1 y2 x7 y1 y10 kb1000000_2.2 ([], (y11.2.b, (y11.2.i, y11.2.h)))) (tw [.rn [(60021000, 60087000), (40710008, 60087001), (40710009, 60087002)]] (wr [] (es (es (es (es (es (es (es er_nil))))))) (bs_ (bs_ (bs_ (bs_ (bs_ (bs_ (bs_ br_nil))))))))) (OK_sL7Query_X_J2 p1 y2 x7 y1 y10 kb1000000_2.2 ([], (y11.2.b, (y11.2.i, y11.2.h))) _ h)
   refine ei (te (te (bh (xi (so ?_)))))
   let a19 : St := a6.p [(58, (.ptr 1000000 0))]
   refine st 1 a19 ?_
   refine callg_step ⟨[(1000000, 1000000)], [], [], [], [], [], [], [], []⟩ (m := sL1Below (GL1Cur.mk b1000000_0 b1000000_1 kb1000000_2.1) 2) (S' := fun (y : Int × GL1Cur) => ⟨(59, (vI y.1)) :: a19.env, [(4, [(vB false), (.nil 13), (.nil 3), (.nil 10), (.nil 11), (vI 0)]), (5, [(vB y1.1), (.tre 60021000), (.nil 3), (.nil 10), (.nil 11), (vI (-1))]), (1000000, bGL1Cur y.2), (60021000, [(.trc 13 (kb1000000_2.2.map cGItem))])]⟩) h (OK_sL1Below (GL1Cur.mk b1000000_0 b1000000_1 kb1000000_2.1) 2) (by kernel_rfl) (by kernel_rfl) (by kernel_rfl) (by kernel_rfl) (fun y => by kernel_rfl) (fun y => by kernel_rfl) ?_
   clear h; intro y16 h
   let a20 : St := ⟨(6, (vI (IntKind.wrap .i64 (1 + y16.1)))) :: (60, (vI (IntKind.wrap .i64 (1 + y16.1)))) :: (59, (vI y16.1)) :: a19.env, [(4, [(vB false), (.nil 13), (.nil 3), (.nil 10), (.nil 11), (vI 0)]), (5, [(vB y1.1), (.tre 60021000), (.nil 3), (.nil 10), (.nil 11), (vI (-1))]), (1000000, bGL1Cur y16.2), (60021000, [(.trc 13 (kb1000000_2.2.map cGItem))])]⟩
   refine st 2 a20 (nx (si (so ?_)))
   let a21 : St := a20.p [(9, (vI 0))]
   refine st 1 a21 (nx (bi ?_))
   exact loop_go (s' := stsL7Query_X_L3 p1 y16 y1 kb1000000_2.2 0 y16.2.b (y16.2.i, (y16.2.h, ([] : List GSource)))) (tw [.rn [(60021000, 60110000)], .nb 5 2 60110001] (wr [] (es (es (es (es (es (es er_nil)))))) (bs_ (bs_ (bs_ (bs_ (bs_ br_nil))))))) (OK_sL7Query_X_L3 p1 y16 y1 kb1000000_2.2 0 y16.2.b (y16.2.i, (y16.2.h, ([] : List GSource))) _ h)
 · intro F_sL7Query_X_J5 F_sL7Expr_X F_sL7Query_X_J4 OK_sL7Query_X_J5 OK_sL7Expr_X OK_sL7Query_X_J4 p1 y16 y1 b60021000_0 x9 b1000000_0_17 kb1000000_1_18 r h
   delta acsL7Query_X_L3
   refine loop_unroll (si (so ?_))
   let a25 : St := (stsL7Query_X_L3 p1 y16 y1 b60021000_0 x9 b1000000_0_17 (kb1000000_1_18.1, (kb1000000_1_18.2.1, kb1000000_1_18.2.2))).p [(63, (vB (decide (x9 < (IntKind.wrap .i64 (1 + y16.1)))))), (62, (vI (IntKind.wrap .i64 (1 + y16.1)))), (61, (vI x9))]
   refine st 3 a25 (nx ?_)
   refine cd h (fun h => ?_) fun h => ?_
   refine ki (xi (si (bi (so ?_))))
   let a26 : St := a25.p [(66, (.ptr 1000000 0))]
   refine st 1 a26 (bsl_step (l := ([[116], [117], [118]] : List (List UInt8))) (f := cStr) (g := cStr) (by kernel_rfl) (fun _ => rfl) (by kernel_rfl) ?_)
   refine callg_step ⟨[(1000000, 1000000)], [], [], [], [], [], [], [], []⟩ (m := sL1Pick (GL1Cur.mk b1000000_0_17 kb1000000_1_18.1 kb1000000_1_18.2.1) ([[116], [117], [118]] : List (List UInt8))) (S' := fun (y : (List UInt8) × GL1Cur) => ⟨(68, (vS y.1)) :: (67, (.osl 67 9 1 (([[116], [117], [118]] : List (List UInt8)).map cStr))) :: a26.env, [(4, [(vB false), (.nil 13), (.nil 3), (.nil 10), (.nil 11), (vI 0)]), (5, [(vB y1.1), (.tre 60110000), (.tre 60110001), (.nil 10), (.nil 11), (vI (-1))]), (1000000, bGL1Cur y.2), (60110001, [(.trc 3 (kb1000000_1_18.2.2.map cGSource))]), (60110000, [(.trc 13 (b60021000_0.map cGItem))])]⟩) h (OK_sL1Pick (GL1Cur.mk b1000000_0_17 kb1000000_1_18.1 kb1000000_1_18.2.1) ([[116], [117], [118]] : List (List UInt8))) (by kernel_rfl) (by kernel_rfl) (by kernel_rfl) (by kernel_rfl) (fun y => by kernel_rfl) (fun y => by kernel_rfl) ?_
   clear h; intro y21 h
   refine bldv_step (c := [(vS y21.1), (vS []), (.nil 10)]) (s' := ⟨(69, (.agv [(vS y21.1), (vS []), (.nil 10)])) :: (68, (vS y21.1)) :: (67, (.osl 67 9 1 (([[116], [117], [118]] : List (List UInt8)).map cStr))) :: a26.env, [(4, [(vB false), (.nil 13), (.nil 3), (.nil 10), (.nil 11), (vI 0)]), (5, [(vB y1.1), (.tre 60110000), (.tre 60110001), (.nil 10), (.nil 11), (vI (-1))]), (1000000, bGL1Cur y21.2), (60110001, [(.trc 3 (kb1000000_1_18.2.2.map cGSource))]), (60110000, [(.trc 13 (b60021000_0.map cGItem))])]⟩) (by kernel_rfl) (by kernel_rfl) (by kernel_rfl) ?_
   let a27 : St := ⟨(10, (.ptr 10 0)) :: (69, (.agv [(vS y21.1), (vS []), (.nil 10)])) :: (68, (vS y21.1)) :: (67, (.osl 67 9 1 (([[116], [117], [118]] : List (List UInt8)).map cStr))) :: a26.env, [(10, [(vS y21.1), (vS []), (.nil 10)]), (4, [(vB false), (.nil 13), (.nil 3), (.nil 10), (.nil 11), (vI 0)]), (5, [(vB y1.1), (.tre 60110000), (.tre 60110001), (.nil 10), (.nil 11), (vI (-1))]), (1000000, bGL1Cur y21.2), (60110001, [(.trc 3 (kb1000000_1_18.2.2.map cGSource))]), (60110000, [(.trc 13 (b60021000_0.map cGItem))])]⟩
   refine st 2 a27 (nx (si (so ?_)))
   let a28 : St := a27.p [(70, (.ptr 1000000 0))]
   refine st 1 a28 ?_
   refine callg_step ⟨[(1000000, 1000000)], [], [], [], [], [], [], [], []⟩ (m := sL1Once y21.2 3) (S' := fun (y : Bool × GL1Cur) => ⟨(71, (vB y.1)) :: a28.env, [(10, [(vS y21.1), (vS []), (.nil 10)]), (4, [(vB false), (.nil 13), (.nil 3), (.nil 10), (.nil 11), (vI 0)]), (5, [(vB y1.1), (.tre 60110000), (.tre 60110001), (.nil 10), (.nil 11), (vI (-1))]), (1000000, bGL1Cur y.2), (60110001, [(.trc 3 (kb1000000_1_18.2.2.map cGSource))]), (60110000, [(.trc 13 (b60021000_0.map cGItem))])]⟩) h (OK_sL1Once y21.2 3) (by kernel_rfl) (by kernel_rfl) (by kernel_rfl) (by kernel_rfl) (fun y => by kernel_rfl) (fun y => by kernel_rfl) ?_
   clear h; intro y22 h
   refine nx ?_
   refine cd h (fun h => ?_) fun h => ?_
   refine oi ?_
   let a29 : St := ⟨(72, (.ptr 1000000 0)) :: (71, (vB y22.1)) :: a28.env, [(10, [(vS y21.1), (vS []), (.nil 10)]), (4, [(vB false), (.nil 13), (.nil 3), (.nil 10), (.nil 11), (vI 0)]), (5, [(vB y1.1), (.tre 60110000), (.tre 60110001), (.nil 10), (.nil 11), (vI (-1))]), (1000000, bGL1Cur y22.2), (60110001, [(.trc 3 (kb1000000_1_18.2.2.map cGSource))]), (60110000, [(.trc 13 (b60021000_0.map cGItem))])]⟩
   refine st 1 a29 ?_
   refine callg_step ⟨[(1000000, 1000000)], [], [], [], [], [], [], [], []⟩ (m := sL2Name y22.2) (S' := fun (y : (List UInt8) × GL1Cur) => ⟨(73, (vS y.1)) :: a29.env, [(10, [(vS y21.1), (vS []), (.nil 10)]), (4, [(vB false), (.nil 13), (.nil 3), (.nil 10), (.nil 11), (vI 0)]), (5, [(vB y1.1), (.tre 60110000), (.tre 60110001), (.nil 10), (.nil 11), (vI (-1))]), (1000000, bGL1Cur y.2), (60110001, [(.trc 3 (kb1000000_1_18.2.2.map cGSource))]), (60110000, [(.trc 13 (b60021000_0.map cGItem))])]⟩) h (OK_sL2Name y22.2) (by kernel_rfl) (by kernel_rfl) (by kernel_rfl) (by kernel_rfl) (fun y => by kernel_rfl) (fun y => by kernel_rfl) ?_
   clear h; intro y23 h
   let a30 : St := ⟨(74, (.ptr 10 1)) :: (73, (vS y23.1)) :: a29.env, [(10, [(vS y21.1), (vS y23.1), (.nil 10)]), (4, [(vB false), (.nil 13), (.nil 3), (.nil 10), (.nil 11), (vI 0)]), (5, [(vB y1.1), (.tre 60110000), (.tre 60110001), (.nil 10), (.nil 11), (vI (-1))]), (1000000, bGL1Cur y23.2), (60110001, [(.trc 3 (kb1000000_1_18.2.2.map cGSource))]), (60110000, [(.trc 13 (b60021000_0.map cGItem))])]⟩
   refine st 2 a30 (ni ?_)
   exact next_step (s' := stsL7Query_X_J4 p1 y16 x9 y1 y21 kb1000000_1_18.2.2 (b60021000_0, (y23.1, (y23.2.b, (y23.2.i, y23.2.h))))) (tw [.rn [(60110000, 60142000), (60110001, 60142001)]] (wr [] (es (es (es (es (es (es (es er_nil))))))) (bs_ (bs_ (bs_ (bs_ (bs_ (bs_ br_nil)))))))) (OK_sL7Query_X_J4 p1 y16 x9 y1 y21 kb1000000_1_18.2.2 (b60021000_0, (y23.1, (y23.2.b, (y23.2.i, y23.2.h)))) _ h)
   refine ki ?_
   exact next_step (s' := stsL7Query_X_J4 p1 y16 x9 y1 y21 kb1000000_1_18.2.2 (b60021000_0, ([], (y22.2.b, (y22.2.i, y22.2.h))))) (tw [.rn [(60110000, 60142000), (60110001, 60142001)]] (wr [] (es (es (es (es (es (es (es er_nil))))))) (bs_ (bs_ (bs_ (bs_ (bs_ (bs_ br_nil)))))))) (OK_sL7Query_X_J4 p1 y16 x9 y1 y21 kb1000000_1_18.2.2 (b60021000_0, ([], (y22.2.b, (y22.2.i, y22.2.h)))) _ h)
   refine ei (te (te (bh (xi (si (so ?_))))))
   let a31 : St := a25.p [(92, (.ptr 1000000 0))]
   refine st 1 a31 ?_
   refine callg_step ⟨[(1000000, 1000000)], [], [], [], [], [], [], [], []⟩ (m := sL1Once (GL1Cur.mk b1000000_0_17 kb1000000_1_18.1 kb1000000_1_18.2.1) 2) (S' := fun (y : Bool × GL1Cur) => ⟨(93, (vB y.1)) :: a31.env, [(4, [(vB false), (.nil 13), (.nil 3), (.nil 10), (.nil 11), (vI 0)]), (5, [(vB y1.1), (.tre 60110000), (.tre 60110001), (.nil 10), (.nil 11), (vI (-1))]), (1000000, bGL1Cur y.2), (60110001, [(.trc 3 (kb1000000_1_18.2.2.map cGSource))]), (60110000, [(.trc 13 (b60021000_0.map cGItem))])]⟩) h (OK_sL1Once (GL1Cur.mk b1000000_0_17 kb1000000_1_18.1 kb1000000_1_18.2.1) 2) (by kernel_rfl) (by kernel_rfl) (by kernel_rfl) (by kernel_rfl) (fun y => by kernel_rfl) (fun y => by kernel_rfl) ?_
   clear h; intro y27 h
   refine nx ?_
   refine cd h (fun h => ?_) fun h => ?_
   refine oi ?_
   let a32 : St := ⟨(95, (vI p1)) :: (94, (.ptr 1000000 0)) :: (93, (vB y27.1)) :: a31.env, [(4, [(vB false), (.nil 13), (.nil 3), (.nil 10), (.nil 11), (vI 0)]), (5, [(vB y1.1), (.tre 60110000), (.tre 60110001), (.nil 10), (.nil 11), (vI (-1))]), (1000000, bGL1Cur y27.2), (60110001, [(.trc 3 (kb1000000_1_18.2.2.map cGSource))]), (60110000, [(.trc 13 (b60021000_0.map cGItem))])]⟩
   refine st 2 a32 ?_
   refine callg_step ⟨[(1000000, 1000000)], [], [], [], [], [], [(10000008, 41810008), (10000009, 41810009)], [], []⟩ (m := F_sL7Expr_X y27.2 p1) (S' := fun (y : GExpr × GL1Cur) => ⟨(96, (.agv [(vI y.1.kind), (vI y.1.op), (vB y.1.not_), (vI y.1.value.kind), (vI y.1.value.num), (vS y.1.value.text), (vS y.1.qual), (vS y.1.name), (.tre 41810008), (.tre 41810009)])) :: a32.env, [(41810008, [(.trc 10 (y.1.kids.map cGExpr))]), (41810009, [(.trc 6 (y.1.sub.map cGQuery))]), (4, [(vB false), (.nil 13), (.nil 3), (.nil 10), (.nil 11), (vI 0)]), (5, [(vB y1.1), (.tre 60110000), (.tre 60110001), (.nil 10), (.nil 11), (vI (-1))]), (1000000, bGL1Cur y.2), (60110001, [(.trc 3 (kb1000000_1_18.2.2.map cGSource))]), (60110000, [(.trc 13 (b60021000_0.map cGItem))])]⟩) h (OK_sL7Expr_X y27.2 p1) (by kernel_rfl) (by kernel_rfl) (by kernel_rfl) (by kernel_rfl) (fun y => by kernel_rfl) (fun y => by kernel_rfl) ?_
   clear h; intro y28 h
   refine bslT_step (l := ([y28.1] : List GExpr)) (f := cGExpr) (g := oGExpr) [41810008, 41810009] (s' := ⟨(97, (.tre 97)) :: (96, (.agv [(vI y28.1.kind), (vI y28.1.op), (vB y28.1.not_), (vI y28.1.value.kind), (vI y28.1.value.num), (vS y28.1.value.text), (vS y28.1.qual), (vS y28.1.name), (.tre 41810008), (.tre 41810009)])) :: a32.env, [(97, [(.trc 10 (([y28.1] : List GExpr).map cGExpr))]), (41810008, [.trd]), (41810009, [.trd]), (4, [(vB false), (.nil 13), (.nil 3), (.nil 10), (.nil 11), (vI 0)]), (5, [(vB y1.1), (.tre 60110000), (.tre 60110001), (.nil 10), (.nil 11), (vI (-1))]), (1000000, bGL1Cur y28.2), (60110001, [(.trc 3 (kb1000000_1_18.2.2.map cGSource))]), (60110000, [(.trc 13 (b60021000_0.map cGItem))])]⟩) (by kernel_rfl) cGExpr_eq (by kernel_rfl) (by kernel_rfl) ?_
   let a33 : St := ⟨(98, (.ptr 5 3)) :: (97, (.tre 97)) :: (96, (.agv [(vI y28.1.kind), (vI y28.1.op), (vB y28.1.not_), (vI y28.1.value.kind), (vI y28.1.value.num), (vS y28.1.value.text), (vS y28.1.qual), (vS y28.1.name), (.tre 41810008), (.tre 41810009)])) :: a32.env, [(97, [(.trc 10 (([y28.1] : List GExpr).map cGExpr))]), (41810008, [.trd]), (41810009, [.trd]), (4, [(vB false), (.nil 13), (.nil 3), (.nil 10), (.nil 11), (vI 0)]), (5, [(vB y1.1), (.tre 60110000), (.tre 60110001), (.tre 97), (.nil 11), (vI (-1))]), (1000000, bGL1Cur y28.2), (60110001, [(.trc 3 (kb1000000_1_18.2.2.map cGSource))]), (60110000, [(.trc 13 (b60021000_0.map cGItem))])]⟩
   refine st 2 a33 (ni ?_)
   exact next_step (s' := stsL7Query_X_J5 p1 y1 b60021000_0 y28.2.b y28.2.i y28.2.h (([y28.1] : List GExpr), kb1000000_1_18.2.2)) (tw [.rn [(60110000, 60186000), (60110001, 60186001), (97, 60186002)]] (wr [] (es (es (es (es er_nil)))) (bs_ (bs_ (bs_ (bs_ (bs_ (bs_ br_nil)))))))) (OK_sL7Query_X_J5 p1 y1 b60021000_0 y28.2.b y28.2.i y28.2.h (([y28.1] : List GExpr), kb1000000_1_18.2.2) _ h)
   refine ki ?_
   exact next_step (s' := stsL7Query_X_J5 p1 y1 b60021000_0 y27.2.b y27.2.i y27.2.h (([] : List GExpr), kb1000000_1_18.2.2)) (tw [.rn [(60110000, 60186000), (60110001, 60186001)], .nb 5 3 60186002] (wr [] (es (es (es (es er_nil)))) (bs_ (bs_ (bs_ (bs_ (bs_ (bs_ br_nil)))))))) (OK_sL7Query_X_J5 p1 y1 b60021000_0 y27.2.b y27.2.i y27.2.h (([] : List GExpr), kb1000000_1_18.2.2) _ h)
 · intro F_sL7Expr_X F_sL7Query_X_J6 OK_sL7Expr_X OK_sL7Query_X_J6 p1 y16 x9 y1 y21 b60110001_0 kb60021000_0 r h
   delta acsL7Query_X_J4
   refine si (so ?_)
   let a34 : St := (stsL7Query_X_J4 p1 y16 x9 y1 y21 b60110001_0 (kb60021000_0.1, (kb60021000_0.2.1, (kb60021000_0.2.2.1, (kb60021000_0.2.2.2.1, kb60021000_0.2.2.2.2))))).p [(77, (vB (decide (0 < x9)))), (76, (vB (decide (0 < x9)))), (75, (vI x9))]
   refine st 3 a34 (gp true (decide (0 < x9)) (.ptr 1000000 0) (fun hc => vl) ?_)
   refine gcallg_step ⟨[(1000000, 1000000)], [], [], [], [], [], [], [], []⟩ (p := true) (b := (decide (0 < x9))) (m := sL1Once (GL1Cur.mk kb60021000_0.2.2.1 kb60021000_0.2.2.2.1 kb60021000_0.2.2.2.2) 2) (dflt := ((default : Bool), (GL1Cur.mk kb60021000_0.2.2.1 kb60021000_0.2.2.2.1 kb60021000_0.2.2.2.2))) (S' := fun (y : Bool × GL1Cur) => ⟨(79, (.ite (true && ((decide (0 < x9)) == true)) (vB y.1))) :: (78, (.ite (true && ((decide (0 < x9)) == true)) (.ptr 1000000 0))) :: a34.env, [(4, [(vB false), (.nil 13), (.nil 3), (.nil 10), (.nil 11), (vI 0)]), (5, [(vB y1.1), (.tre 60142000), (.tre 60142001), (.nil 10), (.nil 11), (vI (-1))]), (10, [(vS y21.1), (vS kb60021000_0.2.1), (.nil 10)]), (1000000, bGL1Cur y.2), (60142001, [(.trc 3 (b60110001_0.map cGSource))]), (60142000, [(.trc 13 (kb60021000_0.1.map cGItem))])]⟩) h (by kernel_rfl) (OK_sL1Once (GL1Cur.mk kb60021000_0.2.2.1 kb60021000_0.2.2.2.1 kb60021000_0.2.2.2.2) 2) (fun hc => by kernel_rfl) (by kernel_rfl) (by kernel_rfl) (by kernel_rfl) (fun y => by kernel_rfl) (by kernel_rfl) (fun hc => (Eq.trans (b := ([(true && ((decide (0 < x9)) == true))] : List Bool).all id) (by kernel_rfl) (all_c hc rfl))) (fun y => by kernel_rfl) ?_
   clear h; intro y32 h
   refine vs (fun (y : Bool) => (vB y)) h (fun y hy => vop_pickV hy (p := (true && ((decide (0 < x9)) == true))) (q := true) (by kernel_rfl) (by kernel_rfl) (by kernel_rfl) (by kernel_rfl) (fun hb => gc_t rfl hb) (fun _ => rfl)) fun y33 h => (nx ?_)
   refine cd h (fun h => ?_) fun h => ?_
   refine oi ?_
   let a35 : St := ⟨(82, (vI p1)) :: (81, (.ptr 1000000 0)) :: (80, (vB y33)) :: (79, (.ite (true && ((decide (0 < x9)) == true)) (vB y32.1))) :: (78, (.ite (true && ((decide (0 < x9)) == true)) (.ptr 1000000 0))) :: a34.env, [(4, [(vB false), (.nil 13), (.nil 3), (.nil 10), (.nil 11), (vI 0)]), (5, [(vB y1.1), (.tre 60142000), (.tre 60142001), (.nil 10), (.nil 11), (vI (-1))]), (10, [(vS y21.1), (vS kb60021000_0.2.1), (.nil 10)]), (1000000, bGL1Cur y32.2), (60142001, [(.trc 3 (b60110001_0.map cGSource))]), (60142000, [(.trc 13 (kb60021000_0.1.map cGItem))])]⟩
   refine st 2 a35 ?_
   refine callg_step ⟨[(1000000, 1000000)], [], [], [], [], [], [(10000008, 41550008), (10000009, 41550009)], [], []⟩ (m := F_sL7Expr_X y32.2 p1) (S' := fun (y : GExpr × GL1Cur) => ⟨(83, (.agv [(vI y.1.kind), (vI y.1.op), (vB y.1.not_), (vI y.1.value.kind), (vI y.1.value.num), (vS y.1.value.text), (vS y.1.qual), (vS y.1.name), (.tre 41550008), (.tre 41550009)])) :: a35.env, [(41550008, [(.trc 10 (y.1.kids.map cGExpr))]), (41550009, [(.trc 6 (y.1.sub.map cGQuery))]), (4, [(vB false), (.nil 13), (.nil 3), (.nil 10), (.nil 11), (vI 0)]), (5, [(vB y1.1), (.tre 60142000), (.tre 60142001), (.nil 10), (.nil 11), (vI (-1))]), (10, [(vS y21.1), (vS kb60021000_0.2.1), (.nil 10)]), (1000000, bGL1Cur y.2), (60142001, [(.trc 3 (b60110001_0.map cGSource))]), (60142000, [(.trc 13 (kb60021000_0.1.map cGItem))])]⟩) h (OK_sL7Expr_X y32.2 p1) (by kernel_rfl) (by kernel_rfl) (by kernel_rfl) (by kernel_rfl) (fun y => by kernel_rfl) (fun y => by kernel_rfl) ?_
   clear h; intro y34 h
   refine bslT_step (l := ([y34.1] : List GExpr)) (f := cGExpr) (g := oGExpr) [41550008, 41550009] (s' := ⟨(84, (.tre 84)) :: (83, (.agv [(vI y34.1.kind), (vI y34.1.op), (vB y34.1.not_), (vI y34.1.value.kind), (vI y34.1.value.num), (vS y34.1.value.text), (vS y34.1.qual), (vS y34.1.name), (.tre 41550008), (.tre 41550009)])) :: a35.env, [(84, [(.trc 10 (([y34.1] : List GExpr).map cGExpr))]), (41550008, [.trd]), (41550009, [.trd]), (4, [(vB false), (.nil 13), (.nil 3), (.nil 10), (.nil 11), (vI 0)]), (5, [(vB y1.1), (.tre 60142000), (.tre 60142001), (.nil 10), (.nil 11), (vI (-1))]), (10, [(vS y21.1), (vS kb60021000_0.2.1), (.nil 10)]), (1000000, bGL1Cur y34.2), (60142001, [(.trc 3 (b60110001_0.map cGSource))]), (60142000, [(.trc 13 (kb60021000_0.1.map cGItem))])]⟩) (by kernel_rfl) cGExpr_eq (by kernel_rfl) (by kernel_rfl) ?_
   let a36 : St := ⟨(85, (.ptr 10 2)) :: (84, (.tre 84)) :: (83, (.agv [(vI y34.1.kind), (vI y34.1.op), (vB y34.1.not_), (vI y34.1.value.kind), (vI y34.1.value.num), (vS y34.1.value.text), (vS y34.1.qual), (vS y34.1.name), (.tre 41550008), (.tre 41550009)])) :: a35.env, [(84, [(.trc 10 (([y34.1] : List GExpr).map cGExpr))]), (41550008, [.trd]), (41550009, [.trd]), (4, [(vB false), (.nil 13), (.nil 3), (.nil 10), (.nil 11), (vI 0)]), (5, [(vB y1.1), (.tre 60142000), (.tre 60142001), (.nil 10), (.nil 11), (vI (-1))]), (10, [(vS y21.1), (vS kb60021000_0.2.1), (.tre 84)]), (1000000, bGL1Cur y34.2), (60142001, [(.trc 3 (b60110001_0.map cGSource))]), (60142000, [(.trc 13 (kb60021000_0.1.map cGItem))])]⟩
   refine st 2 a36 (ni ?_)
   exact next_step (s' := stsL7Query_X_J6 p1 y16 x9 y1 y21 kb60021000_0.2.1 (kb60021000_0.1, (y34.2.b, (y34.2.i, (y34.2.h, (([y34.1] : List GExpr), b60110001_0)))))) (tw [.rn [(60142000, 60160000), (60142001, 60160001), (84, 60160002)]] (wr [] (es (es (es (es (es (es (es er_nil))))))) (bs_ (bs_ (bs_ (bs_ (bs_ (bs_ (bs_ br_nil))))))))) (OK_sL7Query_X_J6 p1 y16 x9 y1 y21 kb60021000_0.2.1 (kb60021000_0.1, (y34.2.b, (y34.2.i, (y34.2.h, (([y34.1] : List GExpr), b60110001_0))))) _ h)
   refine ki ?_
   exact next_step (s' := stsL7Query_X_J6 p1 y16 x9 y1 y21 kb60021000_0.2.1 (kb60021000_0.1, (y32.2.b, (y32.2.i, (y32.2.h, (([] : List GExpr), b60110001_0)))))) (tw [.rn [(60142000, 60160000), (60142001, 60160001)], .nb 10 2 60160002] (wr [] (es (es (es (es (es (es (es er_nil))))))) (bs_ (bs_ (bs_ (bs_ (bs_ (bs_ (bs_ br_nil))))))))) (OK_sL7Query_X_J6 p1 y16 x9 y1 y21 kb60021000_0.2.1 (kb60021000_0.1, (y32.2.b, (y32.2.i, (y32.2.h, (([] : List GExpr), b60110001_0))))) _ h)
 · intro F_sL7Query_X_L3 OK_sL7Query_X_L3 p1 y16 x9 y1 y21 b10_1 kb60021000_0q r h
   delta acsL7Query_X_J6
   refine oi ?_
   let a41 : St := (stsL7Query_X_J6 p1 y16 x9 y1 y21 b10_1 (kb60021000_0q.1, (kb60021000_0q.2.1, (kb60021000_0q.2.2.1, (kb60021000_0q.2.2.2.1, (kb60021000_0q.2.2.2.2.1, kb60021000_0q.2.2.2.2.2)))))).p [(88, (.agv [(vS y21.1), (vS b10_1), (.tre 60160002)])), (87, (.tre 60160001)), (86, (.ptr 5 2))]
   refine st 3 a41 ?_
   refine bslT_step (l := ([(GSource.mk y21.1 b10_1 kb60021000_0q.2.2.2.2.1)] : List GSource)) (f := cGSource) (g := oGSource) [60160002] (s' := ⟨(89, (.tre 89)) :: a41.env, [(89, [(.trc 3 (([(GSource.mk y21.1 b10_1 kb60021000_0q.2.2.2.2.1)] : List GSource).map cGSource))]), (4, [(vB false), (.nil 13), (.nil 3), (.nil 10), (.nil 11), (vI 0)]), (5, [(vB y1.1), (.tre 60160000), (.tre 60160001), (.nil 10), (.nil 11), (vI (-1))]), (10, [(vS y21.1), (vS b10_1), (.tre 60160002)]), (1000000, bGL1Cur (GL1Cur.mk kb60021000_0q.2.1 kb60021000_0q.2.2.1 kb60021000_0q.2.2.2.1)), (60160002, [.trd]), (60160001, [(.trc 3 (kb60021000_0q.2.2.2.2.2.map cGSource))]), (60160000, [(.trc 13 (kb60021000_0q.1.map cGItem))])]⟩) (by kernel_rfl) cGSource_eq (by kernel_rfl) (by kernel_rfl) ?_
   refine appTT_step (l := kb60021000_0q.2.2.2.2.2) (m := ([(GSource.mk y21.1 b10_1 kb60021000_0q.2.2.2.2.1)] : List GSource)) (f := cGSource) [60160001] [89] (S' := fun y => ⟨(90, (.tre 90)) :: (89, (.tre 89)) :: a41.env, [(90, [(.trc 3 (y.map cGSource))]), (89, [.trd]), (4, [(vB false), (.nil 13), (.nil 3), (.nil 10), (.nil 11), (vI 0)]), (5, [(vB y1.1), (.tre 60160000), (.tre 60160001), (.nil 10), (.nil 11), (vI (-1))]), (10, [(vS y21.1), (vS b10_1), (.tre 60160002)]), (1000000, bGL1Cur (GL1Cur.mk kb60021000_0q.2.1 kb60021000_0q.2.2.1 kb60021000_0q.2.2.2.1)), (60160002, [.trd]), (60160001, [.trd]), (60160000, [(.trc 13 (kb60021000_0q.1.map cGItem))])]⟩) h (by kernel_rfl) (by kernel_rfl) (by kernel_rfl) (by kernel_rfl) (fun y => by kernel_rfl) ?_
   clear h; intro y45 h
   let a42 : St := ⟨(91, (.ptr 5 2)) :: (90, (.tre 90)) :: (89, (.tre 89)) :: a41.env, [(90, [(.trc 3 (y45.map cGSource))]), (89, [.trd]), (4, [(vB false), (.nil 13), (.nil 3), (.nil 10), (.nil 11), (vI 0)]), (5, [(vB y1.1), (.tre 60160000), (.tre 90), (.nil 10), (.nil 11), (vI (-1))]), (10, [(vS y21.1), (vS b10_1), (.tre 60160002)]), (1000000, bGL1Cur (GL1Cur.mk kb60021000_0q.2.1 kb60021000_0q.2.2.1 kb60021000_0q.2.2.2.1)), (60160002, [.trd]), (60160001, [.trd]), (60160000, [(.trc 13 (kb60021000_0q.1.map cGItem))])]⟩
   refine st 2 a42 (ni (bn (xi (oi ?_))))
   let a43 : St := a42.p [(9, (vI (IntKind.wrap .i64 (x9 + 1)))), (65, (vI (IntKind.wrap .i64 (x9 + 1)))), (64, (vI x9))]
   refine st 3 a43 (ni ?_)
   exact loop_back (s' := stsL7Query_X_L3 p1 y16 y1 kb60021000_0q.1 (IntKind.wrap .i64 (x9 + 1)) kb60021000_0q.2.1 (kb60021000_0q.2.2.1, (kb60021000_0q.2.2.2.1, y45))) (tw [.rn [(60160000, 60110000), (90, 60110001)]] (wr [] (es (es (es (es (es (es er_nil)))))) (bs_ (bs_ (bs_ (bs_ (bs_ br_nil))))))) (OK_sL7Query_X_L3 p1 y16 y1 kb60021000_0q.1 (IntKind.wrap .i64 (x9 + 1)) kb60021000_0q.2.1 (kb60021000_0q.2.2.1, (kb60021000_0q.2.2.2.1, y45)) _ h)
 · intro F_sL7Query_X_J1 OK_sL7Query_X_J1 p1 y2 x7 y1 y10 b60021000_0 kb8_12 r h
   delta acsL7Query_X_J2
   refine oi ?_
   let a23 : St := (stsL7Query_X_J2 p1 y2 x7 y1 y10 b60021000_0 (kb8_12.1, (kb8_12.2.1, (kb8_12.2.2.1, kb8_12.2.2.2)))).p [(35, (.agv [(vB false), (vS []), (vI y10.1.kind), (vI y10.1.op), (vB y10.1.not_), (vI y10.1.value.kind), (vI y10.1.value.num), (vS y10.1.value.text), (vS y10.1.qual), (vS y10.1.name), (.tre 60087001), (.tre 60087002), (vS kb8_12.1)])), (34, (.tre 60087000)), (33, (.ptr 5 1))]
   refine st 3 a23 ?_
   refine bslT_step (l := ([(GItem.mk false [] y10.1 kb8_12.1)] : List GItem)) (f := cGItem) (g := oGItem) [60087001, 60087002] (s' := ⟨(36, (.tre 36)) :: a23.env, [(36, [(.trc 13 (([(GItem.mk false [] y10.1 kb8_12.1)] : List GItem).map cGItem))]), (4, [(vB false), (.nil 13), (.nil 3), (.nil 10), (.nil 11), (vI 0)]), (5, [(vB y1.1), (.tre 60087000), (.nil 3), (.nil 10), (.nil 11), (vI (-1))]), (8, [(vB false), (vS []), (vI y10.1.kind), (vI y10.1.op), (vB y10.1.not_), (vI y10.1.value.kind), (vI y10.1.value.num), (vS y10.1.value.text), (vS y10.1.qual), (vS y10.1.name), (.tre 60087001), (.tre 60087002), (vS kb8_12.1)]), (1000000, bGL1Cur (GL1Cur.mk kb8_12.2.1 kb8_12.2.2.1 kb8_12.2.2.2)), (60087001, [.trd]), (60087002, [.trd]), (60087000, [(.trc 13 (b60021000_0.map cGItem))])]⟩) (by kernel_rfl) cGItem_eq (by kernel_rfl) (by kernel_rfl) ?_
   refine appTT_step (l := b60021000_0) (m := ([(GItem.mk false [] y10.1 kb8_12.1)] : List GItem)) (f := cGItem) [60087000] [36] (S' := fun y => ⟨(37, (.tre 37)) :: (36, (.tre 36)) :: a23.env, [(37, [(.trc 13 (y.map cGItem))]), (36, [.trd]), (4, [(vB false), (.nil 13), (.nil 3), (.nil 10), (.nil 11), (vI 0)]), (5, [(vB y1.1), (.tre 60087000), (.nil 3), (.nil 10), (.nil 11), (vI (-1))]), (8, [(vB false), (vS []), (vI y10.1.kind), (vI y10.1.op), (vB y10.1.not_), (vI y10.1.value.kind), (vI y10.1.value.num), (vS y10.1.value.text), (vS y10.1.qual), (vS y10.1.name), (.tre 60087001), (.tre 60087002), (vS kb8_12.1)]), (1000000, bGL1Cur (GL1Cur.mk kb8_12.2.1 kb8_12.2.2.1 kb8_12.2.2.2)), (60087001, [.trd]), (60087002, [.trd]), (60087000, [.trd])]⟩) h (by kernel_rfl) (by kernel_rfl) (by kernel_rfl) (by kernel_rfl) (fun y => by kernel_rfl) ?_
   clear h; intro y20 h
   let a24 : St := ⟨(38, (.ptr 5 1)) :: (37, (.tre 37)) :: (36, (.tre 36)) :: a23.env, [(37, [(.trc 13 (y20.map cGItem))]), (36, [.trd]), (4, [(vB false), (.nil 13), (.nil 3), (.nil 10), (.nil 11), (vI 0)]), (5, [(vB y1.1), (.tre 37), (.nil 3), (.nil 10), (.nil 11), (vI (-1))]), (8, [(vB false), (vS []), (vI y10.1.kind), (vI y10.1.op), (vB y10.1.not_), (vI y10.1.value.kind), (vI y10.1.value.num), (vS y10.1.value.text), (vS y10.1.qual), (vS y10.1.name), (.tre 60087001), (.tre 60087002), (vS kb8_12.1)]), (1000000, bGL1Cur (GL1Cur.mk kb8_12.2.1 kb8_12.2.2.1 kb8_12.2.2.2)), (60087001, [.trd]), (60087002, [.trd]), (60087000, [.trd])]⟩
   refine st 2 a24 (ni (bn (bn ?_)))
   exact next_step (s' := stsL7Query_X_J1 p1 y2 x7 y1 kb8_12.2.1 kb8_12.2.2.1 (kb8_12.2.2.2, y20)) (tw [.rn [(37, 60095000)]] (wr [] (es (es (es (es (es (es er_nil)))))) (bs_ (bs_ (bs_ (bs_ br_nil)))))) (OK_sL7Query_X_J1 p1 y2 x7 y1 kb8_12.2.1 kb8_12.2.2.1 (kb8_12.2.2.2, y20) _ h)
 · intro F_sL7Query_X_L0 OK_sL7Query_X_L0 p1 y2 x7 y1 b1000000_0_5 b1000000_1_6 kb1000000_2_7 r h
   delta acsL7Query_X_J1
   refine oi ?_
   let a22 : St := (stsL7Query_X_J1 p1 y2 x7 y1 b1000000_0_5 b1000000_1_6 (kb1000000_2_7.1, kb1000000_2_7.2)).p [(7, (vI (IntKind.wrap .i64 (x7 + 1)))), (21, (vI (IntKind.wrap .i64 (x7 + 1)))), (20, (vI x7))]
   refine st 3 a22 (ni ?_)
   exact loop_back (s' := stsL7Query_X_L0 p1 y2 y1 (IntKind.wrap .i64 (x7 + 1)) b1000000_0_5 b1000000_1_6 (kb1000000_2_7.1, kb1000000_2_7.2)) (tw [.rn [(60095000, 60021000)]] (wr [] (es (es (es (es (es (es er_nil)))))) (bs_ (bs_ (bs_ (bs_ br_nil)))))) (OK_sL7Query_X_L0 p1 y2 y1 (IntKind.wrap .i64 (x7 + 1)) b1000000_0_5 b1000000_1_6 (kb1000000_2_7.1, kb1000000_2_7.2) _ h)
theorem OK_sL7Query_X_J5 (p1 : Int) (y1 : Bool × GL1Cur) (b60021000_0 : (List GItem)) (b1000000_0_29 : (List Int)) (b1000000_1_30 : Int) (b1000000_2_31 : Int) (kb60186002_0 : ((List GExpr) × (List GSource))) (r : GQuery × GL1Cur) (h : sL7Query_X_J5 p1 y1 b60021000_0 b1000000_0_29 b1000000_1_30 b1000000_2_31 kb60186002_0 = some r) : avc Try.prog acsL7Query_X_J5 (qsL7Query_X r) (stsL7Query_X_J5 p1 y1 b60021000_0 b1000000_0_29 b1000000_1_30 b1000000_2_31 kb60186002_0) := (OKs_sL7Query_X_J5).1 p1 y1 b60021000_0 b1000000_0_29 b1000000_1_30 b1000000_2_31 kb60186002_0 r h
theorem OK_sL7Expr_X (p0 : GL1Cur) (p1 : Int) : FOkB Try.prog 85 [(.ptr 1000000 0), (vI p1)] [(1000000, bGL1Cur p0)] (fun (y : GExpr × GL1Cur) => (.agv [(vI y.1.kind), (vI y.1.op), (vB y.1.not_), (vI y.1.value.kind), (vI y.1.value.num), (vS y.1.value.text), (vS y.1.qual), (vS y.1.name), (.tre 10000008), (.tre 10000009)])) (fun (y : GExpr × GL1Cur) => [(10000008, [(.trc 10 (y.1.kids.map cGExpr))]), (10000009, [(.trc 6 (y.1.sub.map cGQuery))]), (1000000, bGL1Cur y.2)]) (sL7Expr_X p0 p1) := fun r h => (OKs_sL7Query_X_J5).2.1 p0 p1 r h
theorem OK_sL7Expr_X_J0 (p1 : Int) (y6 : Int × GL1Cur) (r : GExpr × GL1Cur) (h : sL7Expr_X_J0 p1 y6 = some r) : avc Try.prog acsL7Expr_X_J0 (qsL7Expr_X r) (stsL7Expr_X_J0 p1 y6) := (OKs_sL7Query_X_J5).2.2.1 p1 y6 r h
theorem OK_sL7Kids_X (p0 : GL1Cur) (p1 : Int) (p2 : Int) : FOkB Try.prog 145 [(.ptr 1000000 0), (vI p1), (vI p2)] [(1000000, bGL1Cur p0)] (fun (y : (List GExpr) × GL1Cur) => (.tre 10000000)) (fun (y : (List GExpr) × GL1Cur) => [(10000000, [(.trc 10 (y.1.map cGExpr))]), (1000000, bGL1Cur y.2)]) (sL7Kids_X p0 p1 p2) := fun r h => (OKs_sL7Query_X_J5).2.2.2.1 p0 p1 p2 r h
theorem OK_sL7Kids_X_L0 (p1 : Int) (p2 : Int) (x8 : Int) (b1000000_0 : (List Int)) (b1000000_1 : Int) (b1000000_2 : Int) (b60012000_0 : (List GExpr)) (r : (List GExpr) × GL1Cur) (h : sL7Kids_X_L0 p1 p2 x8 b1000000_0 b1000000_1 b1000000_2 b60012000_0 = some r) : avc Try.prog acsL7Kids_X_L0 (qsL7Kids_X_1 r) (stsL7Kids_X_L0 p1 p2 x8 b1000000_0 b1000000_1 b1000000_2 b60012000_0) := (OKs_sL7Query_X_J5).2.2.2.2.1 p1 p2 x8 b1000000_0 b1000000_1 b1000000_2 b60012000_0 r h
theorem OK_sL7Query_X (p0 : GL1Cur) (p1 : Int) : FOkB Try.prog 146 [(.ptr 1000000 0), (vI p1)] [(1000000, bGL1Cur p0)] (fun (y : GQuery × GL1Cur) => (.agv [(vB y.1.distinct), (.tre 10000001), (.tre 10000002), (.tre 10000003), (.tre 10000004), (vI y.1.limit)])) (fun (y : GQuery × GL1Cur) => [(10000001, [(.trc 13 (y.1.items.map cGItem))]), (10000002, [(.trc 3 (y.1.from_.map cGSource))]), (10000003, [(.trc 10 (y.1.where_.map cGExpr))]), (10000004, [(.trc 11 (y.1.order.map cGSortKey))]), (1000000, bGL1Cur y.2)]) (sL7Query_X p0 p1) := fun r h => (OKs_sL7Query_X_J5).2.2.2.2.2.1 p0 p1 r h
theorem OK_sL7Query_X_L0 (p1 : Int) (y2 : Int × GL1Cur) (y1 : Bool × GL1Cur) (x7 : Int) (b1000000_0 : (List Int)) (b1000000_1 : Int) (kb1000000_2 : (Int × (List GItem))) (r : GQuery × GL1Cur) (h : sL7Query_X_L0 p1 y2 y1 x7 b1000000_0 b1000000_1 kb1000000_2 = some r) : avc Try.prog acsL7Query_X_L0 (qsL7Query_X_1 r) (stsL7Query_X_L0 p1 y2 y1 x7 b1000000_0 b1000000_1 kb1000000_2) := (OKs_sL7Query_X_J5).2.2.2.2.2.2.1 p1 y2 y1 x7 b1000000_0 b1000000_1 kb1000000_2 r h
theorem OK_sL7Query_X_L3 (p1 : Int) (y16 : Int × GL1Cur) (y1 : Bool × GL1Cur) (b60021000_0 : (List GItem)) (x9 : Int) (b1000000_0_17 : (List Int)) (kb1000000_1_18 : (Int × (Int × (List GSource)))) (r : GQuery × GL1Cur) (h : sL7Query_X_L3 p1 y16 y1 b60021000_0 x9 b1000000_0_17 kb1000000_1_18 = some r) : avc Try.prog acsL7Query_X_L3 (qsL7Query_X_7 r) (stsL7Query_X_L3 p1 y16 y1 b60021000_0 x9 b1000000_0_17 kb1000000_1_18) := (OKs_sL7Query_X_J5).2.2.2.2.2.2.2.1 p1 y16 y1 b60021000_0 x9 b1000000_0_17 kb1000000_1_18 r h
theorem OK_sL7Query_X_J4 (p1 : Int) (y16 : Int × GL1Cur) (x9 : Int) (y1 : Bool × GL1Cur) (y21 : (List UInt8) × GL1Cur) (b60110001_0 : (List GSource)) (kb60021000_0 : ((List GItem) × ((List UInt8) × ((List Int) × (Int × Int))))) (r : GQuery × GL1Cur) (h : sL7Query_X_J4 p1 y16 x9 y1 y21 b60110001_0 kb60021000_0 = some r) : avc Try.prog acsL7Query_X_J4 (qsL7Query_X_10 r) (stsL7Query_X_J4 p1 y16 x9 y1 y21 b60110001_0 kb60021000_0) := (OKs_sL7Query_X_J5).2.2.2.2.2.2.2.2.1 p1 y16 x9 y1 y21 b60110001_0 kb60021000_0 r h
theorem OK_sL7Query_X_J6 (p1 : Int) (y16 : Int × GL1Cur) (x9 : Int) (y1 : Bool × GL1Cur) (y21 : (List UInt8) × GL1Cur) (b10_1 : (List UInt8)) (kb60021000_0q : ((List GItem) × ((List Int) × (Int × (Int × ((List GExpr) × (List GSource))))))) (r : GQuery × GL1Cur) (h : sL7Query_X_J6 p1 y16 x9 y1 y21 b10_1 kb60021000_0q = some r) : avc Try.prog acsL7Query_X_J6 (qsL7Query_X_10 r) (stsL7Query_X_J6 p1 y16 x9 y1 y21 b10_1 kb60021000_0q) := (OKs_sL7Query_X_J5).2.2.2.2.2.2.2.2.2.1 p1 y16 x9 y1 y21 b10_1 kb60021000_0q r h
theorem OK_sL7Query_X_J2 (p1 : Int) (y2 : Int × GL1Cur) (x7 : Int) (y1 : Bool × GL1Cur) (y10 : GExpr × GL1Cur) (b60021000_0 : (List GItem)) (kb8_12 : ((List UInt8) × ((List Int) × (Int × Int)))) (r : GQuery × GL1Cur) (h : sL7Query_X_J2 p1 y2 x7 y1 y10 b60021000_0 kb8_12 = some r) : avc Try.prog acsL7Query_X_J2 (qsL7Query_X_5 r) (stsL7Query_X_J2 p1 y2 x7 y1 y10 b60021000_0 kb8_12) := (OKs_sL7Query_X_J5).2.2.2.2.2.2.2.2.2.2.1 p1 y2 x7 y1 y10 b60021000_0 kb8_12 r h
theorem OK_sL7Query_X_J1 (p1 : Int) (y2 : Int × GL1Cur) (x7 : Int) (y1 : Bool × GL1Cur) (b1000000_0_5 : (List Int)) (b1000000_1_6 : Int) (kb1000000_2_7 : (Int × (List GItem))) (r : GQuery × GL1Cur) (h : sL7Query_X_J1 p1 y2 x7 y1 b1000000_0_5 b1000000_1_6 kb1000000_2_7 = some r) : avc Try.prog acsL7Query_X_J1 (qsL7Query_X_2 r) (stsL7Query_X_J1 p1 y2 x7 y1 b1000000_0_5 b1000000_1_6 kb1000000_2_7) := (OKs_sL7Query_X_J5).2.2.2.2.2.2.2.2.2.2.2 p1 y2 x7 y1 b1000000_0_5 b1000000_1_6 kb1000000_2_7 r h
theorem OK_sL7Draw (p0 : (List Int)) : FOk Try.prog 40 [(.d (.sl 1 (p0.map cU8)))] (fun y => (vGExpr y)) (sL7Draw p0) := by
 intro r h
 rw [sL7Draw] at h
 refine aof trsL7Draw ?_
 show avc Try.prog acsL7Draw (qsL7Draw _) ⟨[(0, (.d (.sl 1 (p0.map cU8))))], []⟩
 delta acsL7Draw
 refine so ?_
 let a0 : St := ⟨[(2, (.ptr 2 0)), (0, (.d (.sl 1 (p0.map cU8))))], [(2, [(vI 0), (vI 0), (vB false), (vI 0), (vI 0), (vS []), (vS []), (vS []), (.nil 10), (.nil 6)])]⟩
 refine st 1 a0 (nx (so ?_))
 let a1 : St := a0.p [(5, (.d (.sl 1 (p0.map cU8))))]
 refine st 1 a1 (callg_step ⟨[], [], [], [], [], [], [(31, 6)], [], []⟩ (m := sL1New p0) (S' := fun (y : GL1Cur) => ⟨(6, (.ptr 6 0)) :: a1.env, [(6, bGL1Cur y), (2, [(vI 0), (vI 0), (vB false), (vI 0), (vI 0), (vS []), (vS []), (vS []), (.nil 10), (.nil 6)])]⟩) h (OK_sL1New p0) (by kernel_rfl) (by kernel_rfl) (by kernel_rfl) (by kernel_rfl) (fun y => by kernel_rfl) (fun y => by kernel_rfl) ?_)
 clear h; intro y1 h
 let a2 : St := ⟨(3, (.ptr 6 0)) :: (6, (.ptr 6 0)) :: a1.env, [(6, bGL1Cur y1), (2, [(vI 0), (vI 0), (vB false), (vI 0), (vI 0), (vS []), (vS []), (vS []), (.nil 10), (.nil 6)])]⟩
 refine st 1 a2 (nx (si (so ?_)))
 let a3 : St := a2.p [(7, (.ptr 6 0))]
 refine st 1 a3 ?_
 refine callg_step ⟨[(1000000, 6)], [], [], [], [], [], [], [], []⟩ (m := sL1Once y1 16) (S' := fun (y : Bool × GL1Cur) => ⟨(8, (vB y.1)) :: a3.env, [(6, bGL1Cur y.2), (2, [(vI 0), (vI 0), (vB false), (vI 0), (vI 0), (vS []), (vS []), (vS []), (.nil 10), (.nil 6)])]⟩) h (OK_sL1Once y1 16) (by kernel_rfl) (by kernel_rfl) (by kernel_rfl) (by kernel_rfl) (fun y => by kernel_rfl) (fun y => by kernel_rfl) ?_
 clear h; intro y2 h
 refine nx ?_
 refine cd h (fun h => ?_) fun h => ?_
 refine so ?_
 let a4 : St := ⟨(9, (.ptr 6 0)) :: (8, (vB y2.1)) :: a3.env, [(6, bGL1Cur y2.2), (2, [(vI 0), (vI 0), (vB false), (vI 0), (vI 0), (vS []), (vS []), (vS []), (.nil 10), (.nil 6)])]⟩
 refine st 1 a4 ?_
 refine callg_step ⟨[(1000000, 6)], [], [], [], [], [], [(10000008, 40170008), (10000009, 40170009)], [], []⟩ (m := sL7Deep_X y2.2) (S' := fun (y : GExpr × GL1Cur) => ⟨(10, (.agv [(vI y.1.kind), (vI y.1.op), (vB y.1.not_), (vI y.1.value.kind), (vI y.1.value.num), (vS y.1.value.text), (vS y.1.qual), (vS y.1.name), (.tre 40170008), (.tre 40170009)])) :: a4.env, [(40170008, [(.trc 10 (y.1.kids.map cGExpr))]), (40170009, [(.trc 6 (y.1.sub.map cGQuery))]), (6, bGL1Cur y.2), (2, [(vI 0), (vI 0), (vB false), (vI 0), (vI 0), (vS []), (vS []), (vS []), (.nil 10), (.nil 6)])]⟩) h (OK_sL7Deep_X y2.2) (by kernel_rfl) (by kernel_rfl) (by kernel_rfl) (by kernel_rfl) (fun y => by kernel_rfl) (fun y => by kernel_rfl) ?_
 clear h; intro y3 h
 let a5 : St := ⟨(10, (.agv [(vI y3.1.kind), (vI y3.1.op), (vB y3.1.not_), (vI y3.1.value.kind), (vI y3.1.value.num), (vS y3.1.value.text), (vS y3.1.qual), (vS y3.1.name), (.tre 40170008), (.tre 40170009)])) :: a4.env, [(40170008, [(.trc 10 (y3.1.kids.map cGExpr))]), (40170009, [(.trc 6 (y3.1.sub.map cGQuery))]), (6, bGL1Cur y3.2), (2, [(vI y3.1.kind), (vI y3.1.op), (vB y3.1.not_), (vI y3.1.value.kind), (vI y3.1.value.num), (vS y3.1.value.text), (vS y3.1.qual), (vS y3.1.name), (.tre 40170008), (.tre 40170009)])]⟩
 refine st 1 a5 (nx ?_)
 refine ret_wk (s' := ⟨[(2, (.ptr 2 0))], [(2, bGExpr y3.1)]⟩) (tw [.frz [40170008, 40170009]] (wr [] (es er_nil) (br_cons (c0 := [(vI y3.1.kind), (vI y3.1.op), (vB y3.1.not_), (vI y3.1.value.kind), (vI y3.1.value.num), (vS y3.1.value.text), (vS y3.1.qual), (vS y3.1.name), (.d (.sl 10 (y3.1.kids.map cGExpr))), (.d (.sl 6 (y3.1.sub.map cGQuery)))]) (by kernel_rfl) (vrs_cons (vr_same (by kernel_rfl) (by kernel_rfl)) (vrs_cons (vr_same (by kernel_rfl) (by kernel_rfl)) (vrs_cons (vr_same (by kernel_rfl) (by kernel_rfl)) (vrs_cons (vr_same (by kernel_rfl) (by kernel_rfl)) (vrs_cons (vr_same (by kernel_rfl) (by kernel_rfl)) (vrs_cons (vr_same (by kernel_rfl) (by kernel_rfl)) (vrs_cons (vr_same (by kernel_rfl) (by kernel_rfl)) (vrs_cons (vr_same (by kernel_rfl) (by kernel_rfl)) (vrs_cons (vr_same (by kernel_rfl) (by kernel_rfl)) (vrs_cons (vr_same (by kernel_rfl) (by kernel_rfl)) (vrs_nil))))))))))) br_nil))) ?_
 refine tr ?_
 injection h with h; subst h
 exact r1 (v := (vGExpr y3.1))
 refine ki (xi (so ?_))
 let a6 : St := ⟨(13, (.d (.sl 1 (p0.map cU8)))) :: (12, (.ptr 6 0)) :: (11, (.ptr 6 0)) :: (8, (vB y2.1)) :: a3.env, [(6, bGL1Cur y2.2), (2, [(vI 0), (vI 0), (vB false), (vI 0), (vI 0), (vS []), (vS []), (vS []), (.nil 10), (.nil 6)])]⟩
 refine st 3 a6 (cs h (OK_sL1Size p0 4) fun y4 h => ?_)
 refine callg_step ⟨[(1000000, 6)], [], [], [], [], [], [], [], []⟩ (m := sL1Below y2.2 y4) (S' := fun (y : Int × GL1Cur) => ⟨(15, (vI y.1)) :: (14, (vI y4)) :: a6.env, [(6, bGL1Cur y.2), (2, [(vI 0), (vI 0), (vB false), (vI 0), (vI 0), (vS []), (vS []), (vS []), (.nil 10), (.nil 6)])]⟩) h (OK_sL1Below y2.2 y4) (by kernel_rfl) (by kernel_rfl) (by kernel_rfl) (by kernel_rfl) (fun y => by kernel_rfl) (fun y => by kernel_rfl) ?_
 clear h; intro y5 h
 refine callg_step ⟨[(1000000, 6)], [], [], [], [], [], [(10000008, 40280008), (10000009, 40280009)], [], []⟩ (m := sL7Expr_X y5.2 y5.1) (S' := fun (y : GExpr × GL1Cur) => ⟨(16, (.agv [(vI y.1.kind), (vI y.1.op), (vB y.1.not_), (vI y.1.value.kind), (vI y.1.value.num), (vS y.1.value.text), (vS y.1.qual), (vS y.1.name), (.tre 40280008), (.tre 40280009)])) :: (15, (vI y5.1)) :: (14, (vI y4)) :: a6.env, [(40280008, [(.trc 10 (y.1.kids.map cGExpr))]), (40280009, [(.trc 6 (y.1.sub.map cGQuery))]), (6, bGL1Cur y.2), (2, [(vI 0), (vI 0), (vB false), (vI 0), (vI 0), (vS []), (vS []), (vS []), (.nil 10), (.nil 6)])]⟩) h (OK_sL7Expr_X y5.2 y5.1) (by kernel_rfl) (by kernel_rfl) (by kernel_rfl) (by kernel_rfl) (fun y => by kernel_rfl) (fun y => by kernel_rfl) ?_
 clear h; intro y6 h
 let a7 : St := ⟨(4, (.ptr 4 0)) :: (16, (.agv [(vI y6.1.kind), (vI y6.1.op), (vB y6.1.not_), (vI y6.1.value.kind), (vI y6.1.value.num), (vS y6.1.value.text), (vS y6.1.qual), (vS y6.1.name), (.tre 40280008), (.tre 40280009)])) :: (15, (vI y5.1)) :: (14, (vI y4)) :: a6.env, [(4, [(vI y6.1.kind), (vI y6.1.op), (vB y6.1.not_), (vI y6.1.value.kind), (vI y6.1.value.num), (vS y6.1.value.text), (vS y6.1.qual), (vS y6.1.name), (.tre 40280008), (.tre 40280009)]), (40280008, [(.trc 10 (y6.1.kids.map cGExpr))]), (40280009, [(.trc 6 (y6.1.sub.map cGQuery))]), (6, bGL1Cur y6.2), (2, [(vI 0), (vI 0), (vB false), (vI 0), (vI 0), (vS []), (vS []), (vS []), (.nil 10), (.nil 6)])]⟩
 refine st 2 a7 (nx (si (so ?_)))
 let a8 : St := a7.p [(17, (.ptr 6 0))]
 refine st 1 a8 ?_
 refine callg_step ⟨[(1000000, 6)], [], [], [], [], [], [], [], []⟩ (m := sL1Once y6.2 4) (S' := fun (y : Bool × GL1Cur) => ⟨(18, (vB y.1)) :: a8.env, [(4, [(vI y6.1.kind), (vI y6.1.op), (vB y6.1.not_), (vI y6.1.value.kind), (vI y6.1.value.num), (vS y6.1.value.text), (vS y6.1.qual), (vS y6.1.name), (.tre 40280008), (.tre 40280009)]), (40280008, [(.trc 10 (y6.1.kids.map cGExpr))]), (40280009, [(.trc 6 (y6.1.sub.map cGQuery))]), (6, bGL1Cur y.2), (2, [(vI 0), (vI 0), (vB false), (vI 0), (vI 0), (vS []), (vS []), (vS []), (.nil 10), (.nil 6)])]⟩) h (OK_sL1Once y6.2 4) (by kernel_rfl) (by kernel_rfl) (by kernel_rfl) (by kernel_rfl) (fun y => by kernel_rfl) (fun y => by kernel_rfl) ?_
 clear h; intro y7 h
 refine nx ?_
 refine cd h (fun h => ?_) fun h => ?_
 refine oi ?_
 let a9 : St := ⟨(20, (.agv [(vI y6.1.kind), (vI y6.1.op), (vB y6.1.not_), (vI y6.1.value.kind), (vI y6.1.value.num), (vS y6.1.value.text), (vS y6.1.qual), (vS y6.1.name), (.tre 40280008), (.tre 40280009)])) :: (19, (.ptr 6 0)) :: (18, (vB y7.1)) :: a8.env, [(4, [(vI y6.1.kind), (vI y6.1.op), (vB y6.1.not_), (vI y6.1.value.kind), (vI y6.1.value.num), (vS y6.1.value.text), (vS y6.1.qual), (vS y6.1.name), (.tre 40280008), (.tre 40280009)]), (40280008, [(.trc 10 (y6.1.kids.map cGExpr))]), (40280009, [(.trc 6 (y6.1.sub.map cGQuery))]), (6, bGL1Cur y7.2), (2, [(vI 0), (vI 0), (vB false), (vI 0), (vI 0), (vS []), (vS []), (vS []), (.nil 10), (.nil 6)])]⟩
 refine st 2 a9 ?_
 refine callg_step ⟨[(1000000, 6), (3001008, 40280008), (3001009, 40280009)], [], [], [], [], [], [(10000008, 40400008), (10000009, 40400009)], [], []⟩ (m := sL7Bent_X y7.2 y6.1) (S' := fun (y : GExpr × GL1Cur) => ⟨(21, (.agv [(vI y.1.kind), (vI y.1.op), (vB y.1.not_), (vI y.1.value.kind), (vI y.1.value.num), (vS y.1.value.text), (vS y.1.qual), (vS y.1.name), (.tre 40400008), (.tre 40400009)])) :: a9.env, [(40400008, [(.trc 10 (y.1.kids.map cGExpr))]), (40400009, [(.trc 6 (y.1.sub.map cGQuery))]), (4, [(vI y6.1.kind), (vI y6.1.op), (vB y6.1.not_), (vI y6.1.value.kind), (vI y6.1.value.num), (vS y6.1.value.text), (vS y6.1.qual), (vS y6.1.name), (.tre 40280008), (.tre 40280009)]), (40280008, [.trd]), (40280009, [.trd]), (6, bGL1Cur y.2), (2, [(vI 0), (vI 0), (vB false), (vI 0), (vI 0), (vS []), (vS []), (vS []), (.nil 10), (.nil 6)])]⟩) h (OK_sL7Bent_X y7.2 y6.1) (by kernel_rfl) (by kernel_rfl) (by kernel_rfl) (by kernel_rfl) (fun y => by kernel_rfl) (fun y => by kernel_rfl) ?_
 clear h; intro y8 h
 let a10 : St := ⟨(21, (.agv [(vI y8.1.kind), (vI y8.1.op), (vB y8.1.not_), (vI y8.1.value.kind), (vI y8.1.value.num), (vS y8.1.value.text), (vS y8.1.qual), (vS y8.1.name), (.tre 40400008), (.tre 40400009)])) :: a9.env, [(40400008, [(.trc 10 (y8.1.kids.map cGExpr))]), (40400009, [(.trc 6 (y8.1.sub.map cGQuery))]), (4, [(vI y8.1.kind), (vI y8.1.op), (vB y8.1.not_), (vI y8.1.value.kind), (vI y8.1.value.num), (vS y8.1.value.text), (vS y8.1.qual), (vS y8.1.name), (.tre 40400008), (.tre 40400009)]), (40280008, [.trd]), (40280009, [.trd]), (6, bGL1Cur y8.2), (2, [(vI 0), (vI 0), (vB false), (vI 0), (vI 0), (vS []), (vS []), (vS []), (.nil 10), (.nil 6)])]⟩
 refine st 1 a10 (ni ?_)
 exact next_step (s' := stsL7Draw_J0 y8.1.kind y8.1.op y8.1.not_ y8.1.value.kind y8.1.value.num y8.1.value.text y8.1.qual y8.1.name y8.1.kids y8.1.sub) (tw [.rn [(40400008, 60043000), (40400009, 60043001)]] (wr [] (es (es er_nil)) (bs_ (bs_ (bs_ (bs_ br_nil)))))) (OK_sL7Draw_J0 y8.1.kind y8.1.op y8.1.not_ y8.1.value.kind y8.1.value.num y8.1.value.text y8.1.qual y8.1.name y8.1.kids y8.1.sub _ h)
 refine ki ?_
 exact next_step (s' := stsL7Draw_J0 y6.1.kind y6.1.op y6.1.not_ y6.1.value.kind y6.1.value.num y6.1.value.text y6.1.qual y6.1.name y6.1.kids y6.1.sub) (tw [.rn [(40280008, 60043000), (40280009, 60043001)]] (wr [] (es (es er_nil)) (bs_ (bs_ (bs_ (bs_ br_nil)))))) (OK_sL7Draw_J0 y6.1.kind y6.1.op y6.1.not_ y6.1.value.kind y6.1.value.num y6.1.value.text y6.1.qual y6.1.name y6.1.kids y6.1.sub _ h)
theorem OK_sDrawDepthOf (p0 : (List Int)) : FOk Try.prog 10 [(.d (.sl 1 (p0.map cU8)))] (fun y => (vGExpr y)) (sDrawDepthOf p0) := by
 intro r h
 rw [sDrawDepthOf] at h
 refine aof trsDrawDepthOf ?_
 show avc Try.prog acsDrawDepthOf (qsDrawDepthOf _) ⟨[(0, (.d (.sl 1 (p0.map cU8))))], []⟩
 delta acsDrawDepthOf
 refine so ?_
 let a0 : St := ⟨[(2, (.ptr 2 0)), (0, (.d (.sl 1 (p0.map cU8))))], [(2, [(vI 0), (vI 0), (vB false), (vI 0), (vI 0), (vS []), (vS []), (vS []), (.nil 10), (.nil 6)])]⟩
 refine st 1 a0 (nx (so ?_))
 let a1 : St := a0.p [(3, (.d (.sl 1 (p0.map cU8))))]
 refine st 1 a1 (cs h (OK_sL7Draw p0) fun y1 h => ?_)
 let a2 : St := ⟨(4, (vGExpr y1)) :: a1.env, [(2, bGExpr y1)]⟩
 refine st 1 a2 (nx (ri ?_))
 injection h with h; subst h
 exact r1 (v := (vGExpr y1))
theorem OK_wBig (p0 : (List Int)) : FOk Try.prog 9 [(.d (.sl 1 (p0.map cU8)))] (fun y => (vB y)) (wBig p0) := by
 intro r h
 rw [wBig] at h
 refine aof trwBig ?_
 show avc Try.prog acwBig (qwBig _) ⟨[(0, (.d (.sl 1 (p0.map cU8))))], []⟩
 delta acwBig
 refine so ?_
 let a0 : St := ⟨[(2, (vB false)), (0, (.d (.sl 1 (p0.map cU8))))], []⟩
 refine st 1 a0 (nx (so ?_))
 let a1 : St := a0.p [(3, (.d (.sl 1 (p0.map cU8))))]
 refine st 1 a1 (ps (vI (ln p0)) (vln (sz := 1) (l := p0) (f := cU8)) ?_)
 let a2 : St := a1.p [(2, (vB (decide (1048576 < (ln p0))))), (5, (vB (decide (1048576 < (ln p0))))), (4, (vI (ln p0)))]
 refine st 2 a2 (nx (ri ?_))
 injection h with h; subst h
 exact r1 (v := (vB (decide (1048576 < (ln p0)))))
theorem OKs_iQuery_exprs_L3 (p0 : GQuery) : (∀ (x3_8 : (List GExpr)) (x46 : Int) (r : (List GExpr)), iQuery_exprs_L3 p0 x3_8 x46 = some r → avc Try.prog aciQuery_exprs_L3 (qiQuery_exprs_6 r) (stiQuery_exprs_L3 p0 x3_8 x46)) := by
 refine iQuery_exprs_L3.partial_correctness p0 (fun x3_8 x46 r => avc Try.prog aciQuery_exprs_L3 (qiQuery_exprs_6 r) (stiQuery_exprs_L3 p0 x3_8 x46)) ?_
 · intro F_iQuery_exprs_L3 OK_iQuery_exprs_L3 x3_8 x46 r h
   delta aciQuery_exprs_L3
   refine loop_unroll (so ?_)
   let a21 : St := (stiQuery_exprs_L3 p0 x3_8 x46).p [(47, (vB (decide (x46 < (ln p0.order)))))]
   refine st 1 a21 (nx (si ?_))
   refine cd h (fun h => ?_) fun h => ?_
   refine ki (xi (si (bi (so (vs (fun (y : GSortKey) => (.rp (oGSortKey y))) h (fun y hy => via (l := p0.order) (f := cGSortKey) (g := oGSortKey) (k := .i64) hy cGSortKey_eq) fun y9 h => ?_)))))
   let a22 : St := ⟨(9, (.ptr 9 0)) :: (49, (vGSortKey y9)) :: (48, (.rp (oGSortKey y9))) :: a21.env, [(9, bGSortKey y9)]⟩
   refine st 3 a22 (nx (oi ?_))
   let a23 : St := a22.p [(52, (vGExpr y9.expr)), (51, (.ptr 9 0)), (50, (.osl 3 29 10 (x3_8.map cGExpr)))]
   refine st 3 a23 (bsl_step (l := ([y9.expr] : List GExpr)) (f := cGExpr) (g := oGExpr) (by kernel_rfl) cGExpr_eq (by kernel_rfl) ?_)
   refine app_step (t := 3) (l := x3_8) (m := ([y9.expr] : List GExpr)) (f := cGExpr) (S' := fun y => ⟨[(54, (.osl 54 29 10 (y.map cGExpr))), (53, (.osl 53 29 10 (([y9.expr] : List GExpr).map cGExpr))), (52, (vGExpr y9.expr)), (51, (.ptr 9 0)), (50, (.d (.sl 10 (x3_8.map cGExpr)))), (9, (.ptr 9 0)), (49, (vGSortKey y9)), (48, (.rp (oGSortKey y9))), (47, (vB (decide (x46 < (ln p0.order))))), (3, (.d (.sl 10 (x3_8.map cGExpr)))), (44, (.d (.sl 11 (p0.order.map cGSortKey)))), (45, (vI (ln p0.order))), (46, (vI x46))], [(9, bGSortKey y9)]⟩) h (by kernel_rfl) (by kernel_rfl) (by kernel_rfl) (by kernel_rfl) (fun y => by kernel_rfl) ?_
   clear h; intro y10 h
   let a24 : St := ⟨[(3, (.osl 3 29 10 (y10.map cGExpr))), (54, (.d (.sl 10 (y10.map cGExpr)))), (53, (.osl 53 29 10 (([y9.expr] : List GExpr).map cGExpr))), (52, (vGExpr y9.expr)), (51, (.ptr 9 0)), (50, (.d (.sl 10 (x3_8.map cGExpr)))), (9, (.ptr 9 0)), (49, (vGSortKey y9)), (48, (.rp (oGSortKey y9))), (47, (vB (decide (x46 < (ln p0.order))))), (3, (.d (.sl 10 (x3_8.map cGExpr)))), (44, (.d (.sl 11 (p0.order.map cGSortKey)))), (45, (vI (ln p0.order))), (46, (vI x46))], [(9, bGSortKey y9)]⟩
   refine st 1 a24 (ni (bn (xi (oi ?_))))
   let a25 : St := a24.p [(46, (vI (IntKind.wrap .i64 (x46 + 1)))), (55, (vI (IntKind.wrap .i64 (x46 + 1))))]
   exact st 2 a25 (ni (loop_back (s' := stiQuery_exprs_L3 p0 y10 (IntKind.wrap .i64 (x46 + 1))) (wr [(3, .old 3)] (eo 3 (es (es (es er_nil)))) br_nil) (OK_iQuery_exprs_L3 y10 (IntKind.wrap .i64 (x46 + 1)) _ h)))
   refine ei (te (te (bh (xi (so ?_)))))
   let a26 : St := ⟨[(2, (.osl 2 29 10 (x3_8.map cGExpr))), (56, (.d (.sl 10 (x3_8.map cGExpr)))), (47, (vB (decide (x46 < (ln p0.order))))), (3, (.d (.sl 10 (x3_8.map cGExpr)))), (44, (.d (.sl 11 (p0.order.map cGSortKey)))), (45, (vI (ln p0.order))), (46, (vI x46))], []⟩
   refine st 2 a26 (nx (ret_wk (s' := ⟨[(2, (.osl 2000000 29 10 (x3_8.map cGExpr)))], []⟩) (wr [(2000000, .old 2)] (eo 2 er_nil) br_nil) ?_))
   injection h with h; subst h
   exact ret1_step (v := (.osl 2000000 29 10 (x3_8.map cGExpr))) (by kernel_rfl) (by kernel_rfl) ⟨by kernel_rfl, trivial⟩
theorem OK_iQuery_exprs_L3 (p0 : GQuery) (x3_8 : (List GExpr)) (x46 : Int) (r : (List GExpr)) (h : iQuery_exprs_L3 p0 x3_8 x46 = some r) : avc Try.prog aciQuery_exprs_L3 (qiQuery_exprs_6 r) (stiQuery_exprs_L3 p0 x3_8 x46) := (OKs_iQuery_exprs_L3 p0) x3_8 x46 r h
theorem OKs_iQuery_exprs_L2 (p0 : GQuery) : (∀ (x3_4 : (List GExpr)) (x30 : Int) (r : (List GExpr)), iQuery_exprs_L2 p0 x3_4 x30 = some r → avc Try.prog aciQuery_exprs_L2 (qiQuery_exprs_4 r) (stiQuery_exprs_L2 p0 x3_4 x30)) := by
 refine iQuery_exprs_L2.partial_correctness p0 (fun x3_4 x30 r => avc Try.prog aciQuery_exprs_L2 (qiQuery_exprs_4 r) (stiQuery_exprs_L2 p0 x3_4 x30)) ?_
 · intro F_iQuery_exprs_L2 OK_iQuery_exprs_L2 x3_4 x30 r h
   delta aciQuery_exprs_L2
   refine loop_unroll (so ?_)
   let a12 : St := (stiQuery_exprs_L2 p0 x3_4 x30).p [(31, (vB (decide (x30 < (ln p0.from_)))))]
   refine st 1 a12 (nx (si ?_))
   refine cd h (fun h => ?_) fun h => ?_
   refine ki (xi (si (bi (so (vs (fun (y : GSource) => (.rp (oGSource y))) h (fun y hy => via (l := p0.from_) (f := cGSource) (g := oGSource) (k := .i64) hy cGSource_eq) fun y5 h => ?_)))))
   let a13 : St := ⟨(7, (.ptr 7 0)) :: (33, (vGSource y5)) :: (32, (.rp (oGSource y5))) :: a12.env, [(7, bGSource y5), (1, bGQuery p0)]⟩
   refine st 3 a13 (nx (oi ?_))
   let a14 : St := a13.p [(36, (.d (.sl 10 (y5.on_.map cGExpr)))), (35, (.ptr 7 2)), (34, (.osl 3 29 10 (x3_4.map cGExpr)))]
   refine st 3 a14 ?_
   refine app_step (t := 3) (l := x3_4) (m := y5.on_) (f := cGExpr) (S' := fun y => ⟨[(37, (.osl 37 29 10 (y.map cGExpr))), (36, (.d (.sl 10 (y5.on_.map cGExpr)))), (35, (.ptr 7 2)), (34, (.d (.sl 10 (x3_4.map cGExpr)))), (7, (.ptr 7 0)), (33, (vGSource y5)), (32, (.rp (oGSource y5))), (31, (vB (decide (x30 < (ln p0.from_))))), (1, (.ptr 1 0)), (3, (.d (.sl 10 (x3_4.map cGExpr)))), (28, (.d (.sl 3 (p0.from_.map cGSource)))), (29, (vI (ln p0.from_))), (30, (vI x30))], [(7, bGSource y5), (1, bGQuery p0)]⟩) h (by kernel_rfl) (by kernel_rfl) (by kernel_rfl) (by kernel_rfl) (fun y => by kernel_rfl) ?_
   clear h; intro y6 h
   let a15 : St := ⟨[(3, (.osl 3 29 10 (y6.map cGExpr))), (37, (.d (.sl 10 (y6.map cGExpr)))), (36, (.d (.sl 10 (y5.on_.map cGExpr)))), (35, (.ptr 7 2)), (34, (.d (.sl 10 (x3_4.map cGExpr)))), (7, (.ptr 7 0)), (33, (vGSource y5)), (32, (.rp (oGSource y5))), (31, (vB (decide (x30 < (ln p0.from_))))), (1, (.ptr 1 0)), (3, (.d (.sl 10 (x3_4.map cGExpr)))), (28, (.d (.sl 3 (p0.from_.map cGSource)))), (29, (vI (ln p0.from_))), (30, (vI x30))], [(7, bGSource y5), (1, bGQuery p0)]⟩
   refine st 1 a15 (ni (bn (xi (oi ?_))))
   let a16 : St := a15.p [(30, (vI (IntKind.wrap .i64 (x30 + 1)))), (38, (vI (IntKind.wrap .i64 (x30 + 1))))]
   exact st 2 a16 (ni (loop_back (s' := stiQuery_exprs_L2 p0 y6 (IntKind.wrap .i64 (x30 + 1))) (wr [(3, .old 3)] (es (eo 3 (es (es (es er_nil))))) (bs_ br_nil)) (OK_iQuery_exprs_L2 y6 (IntKind.wrap .i64 (x30 + 1)) _ h)))
   refine ei (te (te (bh (xi (so ?_)))))
   let a17 : St := a12.p [(41, (.d (.sl 10 (p0.where_.map cGExpr)))), (40, (.ptr 1 3)), (39, (.osl 3 29 10 (x3_4.map cGExpr)))]
   refine st 3 a17 ?_
   refine app_step (t := 3) (l := x3_4) (m := p0.where_) (f := cGExpr) (S' := fun y => ⟨[(42, (.osl 42 29 10 (y.map cGExpr))), (41, (.d (.sl 10 (p0.where_.map cGExpr)))), (40, (.ptr 1 3)), (39, (.d (.sl 10 (x3_4.map cGExpr)))), (31, (vB (decide (x30 < (ln p0.from_))))), (1, (.ptr 1 0)), (3, (.d (.sl 10 (x3_4.map cGExpr)))), (28, (.d (.sl 3 (p0.from_.map cGSource)))), (29, (vI (ln p0.from_))), (30, (vI x30))], [(1, bGQuery p0)]⟩) h (by kernel_rfl) (by kernel_rfl) (by kernel_rfl) (by kernel_rfl) (fun y => by kernel_rfl) ?_
   clear h; intro y7 h
   let a18 : St := ⟨[(3, (.osl 3 29 10 (y7.map cGExpr))), (42, (.d (.sl 10 (y7.map cGExpr)))), (41, (.d (.sl 10 (p0.where_.map cGExpr)))), (40, (.ptr 1 3)), (39, (.d (.sl 10 (x3_4.map cGExpr)))), (31, (vB (decide (x30 < (ln p0.from_))))), (1, (.ptr 1 0)), (3, (.d (.sl 10 (x3_4.map cGExpr)))), (28, (.d (.sl 3 (p0.from_.map cGSource)))), (29, (vI (ln p0.from_))), (30, (vI x30))], [(1, bGQuery p0)]⟩
   refine st 1 a18 (nx (si (so ?_)))
   let a19 : St := a18.p [(44, (.d (.sl 11 (p0.order.map cGSortKey)))), (43, (.ptr 1 4))]
   refine st 2 a19 (ps (vI (ln p0.order)) (vln (sz := 11) (l := p0.order) (f := cGSortKey)) ?_)
   let a20 : St := a19.p [(46, (vI 0)), (45, (vI (ln p0.order)))]
   exact st 1 a20 (nx (bi (loop_go (s' := stiQuery_exprs_L3 p0 y7 0) (wr [(3, .old 3)] (eo 3 (es (es (es er_nil)))) br_nil) (OK_iQuery_exprs_L3 p0 y7 0 _ h))))
theorem OK_iQuery_exprs_L2 (p0 : GQuery) (x3_4 : (List GExpr)) (x30 : Int) (r : (List GExpr)) (h : iQuery_exprs_L2 p0 x3_4 x30 = some r) : avc Try.prog aciQuery_exprs_L2 (qiQuery_exprs_4 r) (stiQuery_exprs_L2 p0 x3_4 x30) := (OKs_iQuery_exprs_L2 p0) x3_4 x30 r h
theorem OKs_iQuery_exprs_J1 (p0 : GQuery) : (∀ (x14 : Int) (x3_3 : (List GExpr)) (r : (List GExpr)), iQuery_exprs_J1 p0 x14 x3_3 = some r → avc Try.prog aciQuery_exprs_J1 (qiQuery_exprs_2 r) (stiQuery_exprs_J1 p0 x14 x3_3)) ∧ (∀ (x3 : (List GExpr)) (x14 : Int) (r : (List GExpr)), iQuery_exprs_L0 p0 x3 x14 = some r → avc Try.prog aciQuery_exprs_L0 (qiQuery_exprs_1 r) (stiQuery_exprs_L0 p0 x3 x14)) := by
 refine iQuery_exprs_J1.mutual_partial_correctness p0 (fun x14 x3_3 r => avc Try.prog aciQuery_exprs_J1 (qiQuery_exprs_2 r) (stiQuery_exprs_J1 p0 x14 x3_3)) (fun x3 x14 r => avc Try.prog aciQuery_exprs_L0 (qiQuery_exprs_1 r) (stiQuery_exprs_L0 p0 x3 x14)) ?_ ?_
 · intro F_iQuery_exprs_L0 OK_iQuery_exprs_L0 x14 x3_3 r h
   delta aciQuery_exprs_J1
   refine oi ?_
   let a11 : St := (stiQuery_exprs_J1 p0 x14 x3_3).p [(14, (vI (IntKind.wrap .i64 (x14 + 1)))), (26, (vI (IntKind.wrap .i64 (x14 + 1))))]
   exact st 2 a11 (ni (loop_back (s' := stiQuery_exprs_L0 p0 x3_3 (IntKind.wrap .i64 (x14 + 1))) (wr [(3, .old 3)] (es (eo 3 (es (es (es er_nil))))) (bs_ br_nil)) (OK_iQuery_exprs_L0 x3_3 (IntKind.wrap .i64 (x14 + 1)) _ h)))
 · intro F_iQuery_exprs_J1 OK_iQuery_exprs_J1 x3 x14 r h
   delta aciQuery_exprs_L0
   refine loop_unroll (so ?_)
   let a4 : St := (stiQuery_exprs_L0 p0 x3 x14).p [(15, (vB (decide (x14 < (ln p0.items)))))]
   refine st 1 a4 (nx (si ?_))
   refine cd h (fun h => ?_) fun h => ?_
   refine ki (xi (si (bi (so (vs (fun (y : GItem) => (.rp (oGItem y))) h (fun y hy => via (l := p0.items) (f := cGItem) (g := oGItem) (k := .i64) hy cGItem_eq) fun y1 h => ?_)))))
   let a5 : St := ⟨(5, (.ptr 5 0)) :: (17, (vGItem y1)) :: (16, (.rp (oGItem y1))) :: a4.env, [(5, bGItem y1), (1, bGQuery p0)]⟩
   refine st 3 a5 (nx (so ?_))
   let a6 : St := a5.p [(20, (vB (!y1.star))), (19, (vB y1.star)), (18, (.ptr 5 0))]
   refine st 3 a6 (nx ?_)
   refine cd h (fun h => ?_) fun h => ?_
   refine oi ?_
   let a7 : St := a6.p [(23, (vGExpr y1.expr)), (22, (.ptr 5 2)), (21, (.osl 3 29 10 (x3.map cGExpr)))]
   refine st 3 a7 (bsl_step (l := ([y1.expr] : List GExpr)) (f := cGExpr) (g := oGExpr) (by kernel_rfl) cGExpr_eq (by kernel_rfl) ?_)
   refine app_step (t := 3) (l := x3) (m := ([y1.expr] : List GExpr)) (f := cGExpr) (S' := fun y => ⟨[(25, (.osl 25 29 10 (y.map cGExpr))), (24, (.osl 24 29 10 (([y1.expr] : List GExpr).map cGExpr))), (23, (vGExpr y1.expr)), (22, (.ptr 5 2)), (21, (.d (.sl 10 (x3.map cGExpr)))), (20, (vB (!y1.star))), (19, (vB y1.star)), (18, (.ptr 5 0)), (5, (.ptr 5 0)), (17, (vGItem y1)), (16, (.rp (oGItem y1))), (15, (vB (decide (x14 < (ln p0.items))))), (1, (.ptr 1 0)), (3, (.d (.sl 10 (x3.map cGExpr)))), (12, (.d (.sl 13 (p0.items.map cGItem)))), (13, (vI (ln p0.items))), (14, (vI x14))], [(5, bGItem y1), (1, bGQuery p0)]⟩) h (by kernel_rfl) (by kernel_rfl) (by kernel_rfl) (by kernel_rfl) (fun y => by kernel_rfl) ?_
   clear h; intro y2 h
   let a8 : St := ⟨[(3, (.osl 3 29 10 (y2.map cGExpr))), (25, (.d (.sl 10 (y2.map cGExpr)))), (24, (.osl 24 29 10 (([y1.expr] : List GExpr).map cGExpr))), (23, (vGExpr y1.expr)), (22, (.ptr 5 2)), (21, (.d (.sl 10 (x3.map cGExpr)))), (20, (vB (!y1.star))), (19, (vB y1.star)), (18, (.ptr 5 0)), (5, (.ptr 5 0)), (17, (vGItem y1)), (16, (.rp (oGItem y1))), (15, (vB (decide (x14 < (ln p0.items))))), (1, (.ptr 1 0)), (3, (.d (.sl 10 (x3.map cGExpr)))), (12, (.d (.sl 13 (p0.items.map cGItem)))), (13, (vI (ln p0.items))), (14, (vI x14))], [(5, bGItem y1), (1, bGQuery p0)]⟩
   exact st 1 a8 (ni (bn (next_step (s' := stiQuery_exprs_J1 p0 x14 y2) (wr [(3, .old 3)] (es (eo 3 (es (es (es er_nil))))) (bs_ br_nil)) (OK_iQuery_exprs_J1 x14 y2 _ h))))
   exact ki (bn (next_step (s' := stiQuery_exprs_J1 p0 x14 x3) (wr [(3, .old 3)] (es (eo 3 (es (es (es er_nil))))) (bs_ br_nil)) (OK_iQuery_exprs_J1 x14 x3 _ h)))
   refine ei (te (te (bh (xi (si (so ?_))))))
   let a9 : St := a4.p [(28, (.d (.sl 3 (p0.from_.map cGSource)))), (27, (.ptr 1 2))]
   refine st 2 a9 (ps (vI (ln p0.from_)) (vln (sz := 3) (l := p0.from_) (f := cGSource)) ?_)
   let a10 : St := a9.p [(30, (vI 0)), (29, (vI (ln p0.from_)))]
   exact st 1 a10 (nx (bi (loop_go (s' := stiQuery_exprs_L2 p0 x3 0) (wr [(3, .old 3)] (es (eo 3 (es (es (es er_nil))))) (bs_ br_nil)) (OK_iQuery_exprs_L2 p0 x3 0 _ h))))
theorem OK_iQuery_exprs_J1 (p0 : GQuery) (x14 : Int) (x3_3 : (List GExpr)) (r : (List GExpr)) (h : iQuery_exprs_J1 p0 x14 x3_3 = some r) : avc Try.prog aciQuery_exprs_J1 (qiQuery_exprs_2 r) (stiQuery_exprs_J1 p0 x14 x3_3) := (OKs_iQuery_exprs_J1 p0).1 x14 x3_3 r h
theorem OK_iQuery_exprs_L0 (p0 : GQuery) (x3 : (List GExpr)) (x14 : Int) (r : (List GExpr)) (h : iQuery_exprs_L0 p0 x3 x14 = some r) : avc Try.prog aciQuery_exprs_L0 (qiQuery_exprs_1 r) (stiQuery_exprs_L0 p0 x3 x14) := (OKs_iQuery_exprs_J1 p0).2 x3 x14 r h
theorem OK_iQuery_exprs (p0 : GQuery) : FOkB Try.prog 43 [(vGQuery p0)] [] (fun (y : (List GExpr)) => (.osl 2000000 29 10 (y.map cGExpr))) (fun (y : (List GExpr)) => []) (iQuery_exprs p0) := by
 intro r h
 rw [iQuery_exprs] at h
 refine aof triQuery_exprs ?_
 show avc Try.prog aciQuery_exprs (qiQuery_exprs _) ⟨[(0, (vGQuery p0))], []⟩
 delta aciQuery_exprs
 refine so ?_
 let a0 : St := ⟨[(2, (.nil 10)), (1, (.ptr 1 0)), (0, (vGQuery p0))], [(1, bGQuery p0)]⟩
 refine st 2 a0 (nx (so (bsl_step (l := ([] : List GExpr)) (f := cGExpr) (g := oGExpr) (by kernel_rfl) cGExpr_eq (by kernel_rfl) ?_)))
 let a1 : St := a0.p [(3, (.osl 3 29 10 (([] : List GExpr).map cGExpr))), (10, (.d (.sl 10 (([] : List GExpr).map cGExpr))))]
 refine st 1 a1 (nx (si (so ?_)))
 let a2 : St := a1.p [(12, (.d (.sl 13 (p0.items.map cGItem)))), (11, (.ptr 1 1))]
 refine st 2 a2 (ps (vI (ln p0.items)) (vln (sz := 13) (l := p0.items) (f := cGItem)) ?_)
 let a3 : St := a2.p [(14, (vI 0)), (13, (vI (ln p0.items)))]
 exact st 1 a3 (nx (bi (loop_go (s' := stiQuery_exprs_L0 p0 ([] : List GExpr) 0) (wr [(3, .old 3)] (es (eo 3 (es (es (es er_nil))))) (bs_ br_nil)) (OK_iQuery_exprs_L0 p0 ([] : List GExpr) 0 _ h))))
theorem OKs_iDeepestOf_L0 : (∀ (p0 : (List GExpr)) (x3 : Int) (x8 : Int) (r : Int), iDeepestOf_L0 p0 x3 x8 = some r → avc Try.prog aciDeepestOf_L0 (qiDeepestOf_1 r) (stiDeepestOf_L0 p0 x3 x8)) ∧ (∀ (p0 : GExpr) (r : Int), iDepthOf p0 = some r → ACalls Try.prog 12 [(vGExpr p0)] [] fun x _ => x = (fun y => (vI y)) r) ∧ (∀ (p0 : GExpr) (x3 : Int) (x11 : Int) (r : Int), iDepthOf_L0 p0 x3 x11 = some r → avc Try.prog aciDepthOf_L0 (qiDepthOf_1 r) (stiDepthOf_L0 p0 x3 x11)) ∧ (∀ (p0 : GExpr) (x3_3 : Int) (x23 : Int) (r : Int), iDepthOf_L1 p0 x3_3 x23 = some r → avc Try.prog aciDepthOf_L1 (qiDepthOf_3 r) (stiDepthOf_L1 p0 x3_3 x23)) ∧ (∀ (p0 : GQuery) (r : Int), iQueryDepth p0 = some r → ACalls Try.prog 14 [(vGQuery p0)] [] fun x _ => x = (fun y => (vI y)) r) ∧ (∀ (p0 : (List GExpr)) (r : Int), iDeepestOf p0 = some r → ACalls Try.prog 42 [(.d (.sl 10 (p0.map cGExpr)))] [] fun x _ => x = (fun y => (vI y)) r) := by
 refine iDeepestOf_L0.mutual_partial_correctness (fun p0 x3 x8 r => avc Try.prog aciDeepestOf_L0 (qiDeepestOf_1 r) (stiDeepestOf_L0 p0 x3 x8)) (fun p0 r => ACalls Try.prog 12 [(vGExpr p0)] [] fun x _ => x = (fun y => (vI y)) r) (fun p0 x3 x11 r => avc Try.prog aciDepthOf_L0 (qiDepthOf_1 r) (stiDepthOf_L0 p0 x3 x11)) (fun p0 x3_3 x23 r => avc Try.prog aciDepthOf_L1 (qiDepthOf_3 r) (stiDepthOf_L1 p0 x3_3 x23)) (fun p0 r => ACalls Try.prog 14 [(vGQuery p0)] [] fun x _ => x = (fun y => (vI y)) r) (fun p0 r => ACalls Try.prog 42 [(.d (.sl 10 (p0.map cGExpr)))] [] fun x _ => x = (fun y => (vI y)) r) ?_ ?_ ?_ ?_ ?_ ?_
 · intro F_iDeepestOf_L0 F_iDepthOf OK_iDeepestOf_L0 OK_iDepthOf p0 x3 x8 r h
   delta aciDeepestOf_L0
   refine loop_unroll (so ?_)
   let a4 : St := (stiDeepestOf_L0 p0 x3 x8).p [(9, (vB (decide (x8 < (ln p0)))))]
   refine st 1 a4 (nx (si ?_))
   refine cd h (fun h => ?_) fun h => ?_
   refine ki (xi (si (bi (so (vs (fun (y : GExpr) => (.rp (oGExpr y))) h (fun y hy => via (l := p0) (f := cGExpr) (g := oGExpr) (k := .i64) hy cGExpr_eq) fun y1 h => ?_)))))
   let a5 : St := ⟨(5, (.ptr 5 0)) :: (11, (vGExpr y1)) :: (10, (.rp (oGExpr y1))) :: a4.env, [(5, bGExpr y1)]⟩
   refine st 3 a5 (nx (oi ?_))
   let a6 : St := a5.p [(13, (vGExpr y1)), (12, (vI x3))]
   refine st 2 a6 (cs h (OK_iDepthOf y1) fun y2 h => ?_)
   let a7 : St := a6.p [(3, (vI (if y2 > x3 then y2 else x3))), (15, (vI (if y2 > x3 then y2 else x3))), (14, (vI y2))]
   refine st 2 a7 (ni (bn (xi (oi ?_))))
   let a8 : St := a7.p [(8, (vI (IntKind.wrap .i64 (x8 + 1)))), (16, (vI (IntKind.wrap .i64 (x8 + 1))))]
   exact st 2 a8 (ni (loop_back (s' := stiDeepestOf_L0 p0 (if y2 > x3 then y2 else x3) (IntKind.wrap .i64 (x8 + 1))) (wr [] (es (es (es (es er_nil)))) br_nil) (OK_iDeepestOf_L0 p0 (if y2 > x3 then y2 else x3) (IntKind.wrap .i64 (x8 + 1)) _ h)))
   refine ei (te (te (bh (xi (so ?_)))))
   let a9 : St := a4.p [(2, (vI x3)), (17, (vI x3))]
   refine st 2 a9 (nx (ri ?_))
   injection h with h; subst h
   exact r1 (v := (vI x3))
 · intro F_iDepthOf_L0 OK_iDepthOf_L0 p0 r h
   refine aof triDepthOf ?_
   show avc Try.prog aciDepthOf (qiDepthOf _) ⟨[(0, (vGExpr p0))], []⟩
   delta aciDepthOf
   refine so ?_
   let a0 : St := ⟨[(2, (vI 0)), (1, (.ptr 1 0)), (0, (vGExpr p0))], [(1, bGExpr p0)]⟩
   refine st 2 a0 (nx (so ?_))
   let a1 : St := a0.p [(3, (vI 0))]
   refine st 1 a1 (nx (si (so ?_)))
   let a2 : St := a1.p [(9, (.d (.sl 10 (p0.kids.map cGExpr)))), (8, (.ptr 1 8))]
   refine st 2 a2 (ps (vI (ln p0.kids)) (vln (sz := 10) (l := p0.kids) (f := cGExpr)) ?_)
   let a3 : St := a2.p [(11, (vI 0)), (10, (vI (ln p0.kids)))]
   exact st 1 a3 (nx (bi (loop_go (s' := stiDepthOf_L0 p0 0 0) (wr [] (es (es (es (es (es er_nil))))) (bs_ br_nil)) (OK_iDepthOf_L0 p0 0 0 _ h))))
 · intro F_iDepthOf F_iDepthOf_L0 F_iDepthOf_L1 OK_iDepthOf OK_iDepthOf_L0 OK_iDepthOf_L1 p0 x3 x11 r h
   delta aciDepthOf_L0
   refine loop_unroll (so ?_)
   let a4 : St := (stiDepthOf_L0 p0 x3 x11).p [(12, (vB (decide (x11 < (ln p0.kids)))))]
   refine st 1 a4 (nx (si ?_))
   refine cd h (fun h => ?_) fun h => ?_
   refine ki (xi (si (bi (so (vs (fun (y : GExpr) => (.rp (oGExpr y))) h (fun y hy => via (l := p0.kids) (f := cGExpr) (g := oGExpr) (k := .i64) hy cGExpr_eq) fun y1 h => ?_)))))
   let a5 : St := ⟨(5, (.ptr 5 0)) :: (14, (vGExpr y1)) :: (13, (.rp (oGExpr y1))) :: a4.env, [(5, bGExpr y1), (1, bGExpr p0)]⟩
   refine st 3 a5 (nx (oi ?_))
   let a6 : St := a5.p [(16, (vGExpr y1)), (15, (vI x3))]
   refine st 2 a6 (cs h (OK_iDepthOf y1) fun y2 h => ?_)
   let a7 : St := a6.p [(3, (vI (if y2 > x3 then y2 else x3))), (18, (vI (if y2 > x3 then y2 else x3))), (17, (vI y2))]
   refine st 2 a7 (ni (bn (xi (oi ?_))))
   let a8 : St := a7.p [(11, (vI (IntKind.wrap .i64 (x11 + 1)))), (19, (vI (IntKind.wrap .i64 (x11 + 1))))]
   exact st 2 a8 (ni (loop_back (s' := stiDepthOf_L0 p0 (if y2 > x3 then y2 else x3) (IntKind.wrap .i64 (x11 + 1))) (wr [] (es (es (es (es (es er_nil))))) (bs_ br_nil)) (OK_iDepthOf_L0 p0 (if y2 > x3 then y2 else x3) (IntKind.wrap .i64 (x11 + 1)) _ h)))
   refine ei (te (te (bh (xi (si (so ?_))))))
   let a9 : St := a4.p [(21, (.d (.sl 6 (p0.sub.map cGQuery)))), (20, (.ptr 1 9))]
   refine st 2 a9 (ps (vI (ln p0.sub)) (vln (sz := 6) (l := p0.sub) (f := cGQuery)) ?_)
   let a10 : St := a9.p [(23, (vI 0)), (22, (vI (ln p0.sub)))]
   exact st 1 a10 (nx (bi (loop_go (s' := stiDepthOf_L1 p0 x3 0) (wr [] (es (es (es (es er_nil)))) br_nil) (OK_iDepthOf_L1 p0 x3 0 _ h))))
 · intro F_iDepthOf_L1 F_iQueryDepth OK_iDepthOf_L1 OK_iQueryDepth p0 x3_3 x23 r h
   delta aciDepthOf_L1
   refine loop_unroll (so ?_)
   let a11 : St := (stiDepthOf_L1 p0 x3_3 x23).p [(24, (vB (decide (x23 < (ln p0.sub)))))]
   refine st 1 a11 (nx (si ?_))
   refine cd h (fun h => ?_) fun h => ?_
   refine ki (xi (si (bi (so (vs (fun (y : GQuery) => (.rp (oGQuery y))) h (fun y hy => via (l := p0.sub) (f := cGQuery) (g := oGQuery) (k := .i64) hy cGQuery_eq) fun y4 h => ?_)))))
   let a12 : St := ⟨(7, (.ptr 7 0)) :: (26, (vGQuery y4)) :: (25, (.rp (oGQuery y4))) :: a11.env, [(7, bGQuery y4)]⟩
   refine st 3 a12 (nx (oi ?_))
   let a13 : St := a12.p [(28, (vGQuery y4)), (27, (vI x3_3))]
   refine st 2 a13 (cs h (OK_iQueryDepth y4) fun y5 h => ?_)
   let a14 : St := a13.p [(3, (vI (if y5 > x3_3 then y5 else x3_3))), (30, (vI (if y5 > x3_3 then y5 else x3_3))), (29, (vI y5))]
   refine st 2 a14 (ni (bn (xi (oi ?_))))
   let a15 : St := a14.p [(23, (vI (IntKind.wrap .i64 (x23 + 1)))), (31, (vI (IntKind.wrap .i64 (x23 + 1))))]
   exact st 2 a15 (ni (loop_back (s' := stiDepthOf_L1 p0 (if y5 > x3_3 then y5 else x3_3) (IntKind.wrap .i64 (x23 + 1))) (wr [] (es (es (es (es er_nil)))) br_nil) (OK_iDepthOf_L1 p0 (if y5 > x3_3 then y5 else x3_3) (IntKind.wrap .i64 (x23 + 1)) _ h)))
   refine ei (te (te (bh (xi (so ?_)))))
   let a16 : St := a11.p [(2, (vI (IntKind.wrap .i64 (1 + x3_3)))), (33, (vI (IntKind.wrap .i64 (1 + x3_3)))), (32, (vI x3_3))]
   refine st 3 a16 (nx (ri ?_))
   injection h with h; subst h
   exact r1 (v := (vI (IntKind.wrap .i64 (1 + x3_3))))
 · intro F_iDeepestOf OK_iDeepestOf p0 r h
   refine aof triQueryDepth ?_
   show avc Try.prog aciQueryDepth (qiQueryDepth _) ⟨[(0, (vGQuery p0))], []⟩
   delta aciQueryDepth
   refine so ?_
   let a0 : St := ⟨[(2, (vI 0)), (1, (.ptr 1 0)), (0, (vGQuery p0))], [(1, bGQuery p0)]⟩
   refine st 2 a0 (nx (so ?_))
   let a1 : St := a0.p [(3, (vGQuery p0))]
   refine st 1 a1 (callg_step ⟨[], [], [], [], [], [(2000000, 4)], [], [4], []⟩ (m := iQuery_exprs p0) (S' := fun (y : (List GExpr)) => ⟨(4, (.osl 4 29 10 (y.map cGExpr))) :: a1.env, a1.bx⟩) h (OK_iQuery_exprs p0) (by kernel_rfl) (by kernel_rfl) (by kernel_rfl) (by kernel_rfl) (fun y => by kernel_rfl) (fun y => by kernel_rfl) ?_)
   clear h; intro y1 h
   refine cs h (OK_iDeepestOf y1) fun y2 h => ?_
   let a2 : St := a1.p [(2, (vI y2)), (5, (vI y2)), (4, (.osl 4 29 10 (y1.map cGExpr)))]
   refine st 1 a2 (nx (ri ?_))
   injection h with h; subst h
   exact r1 (v := (vI y2))
 · intro F_iDeepestOf_L0 OK_iDeepestOf_L0 p0 r h
   refine aof triDeepestOf ?_
   show avc Try.prog aciDeepestOf (qiDeepestOf _) ⟨[(0, (.d (.sl 10 (p0.map cGExpr))))], []⟩
   delta aciDeepestOf
   refine so ?_
   let a0 : St := ⟨[(2, (vI 0)), (0, (.d (.sl 10 (p0.map cGExpr))))], []⟩
   refine st 1 a0 (nx (so ?_))
   let a1 : St := a0.p [(3, (vI 0))]
   refine st 1 a1 (nx (si (so ?_)))
   let a2 : St := a1.p [(6, (.d (.sl 10 (p0.map cGExpr))))]
   refine st 1 a2 (ps (vI (ln p0)) (vln (sz := 10) (l := p0) (f := cGExpr)) ?_)
   let a3 : St := a2.p [(8, (vI 0)), (7, (vI (ln p0)))]
   exact st 1 a3 (nx (bi (loop_go (s' := stiDeepestOf_L0 p0 0 0) (wr [] (es (es (es (es er_nil)))) br_nil) (OK_iDeepestOf_L0 p0 0 0 _ h))))
theorem OK_iDeepestOf_L0 (p0 : (List GExpr)) (x3 : Int) (x8 : Int) (r : Int) (h : iDeepestOf_L0 p0 x3 x8 = some r) : avc Try.prog aciDeepestOf_L0 (qiDeepestOf_1 r) (stiDeepestOf_L0 p0 x3 x8) := (OKs_iDeepestOf_L0).1 p0 x3 x8 r h
theorem OK_iDepthOf (p0 : GExpr) : FOk Try.prog 12 [(vGExpr p0)] (fun y => (vI y)) (iDepthOf p0) := fun r h => (OKs_iDeepestOf_L0).2.1 p0 r h
theorem OK_iDepthOf_L0 (p0 : GExpr) (x3 : Int) (x11 : Int) (r : Int) (h : iDepthOf_L0 p0 x3 x11 = some r) : avc Try.prog aciDepthOf_L0 (qiDepthOf_1 r) (stiDepthOf_L0 p0 x3 x11) := (OKs_iDeepestOf_L0).2.2.1 p0 x3 x11 r h
theorem OK_iDepthOf_L1 (p0 : GExpr) (x3_3 : Int) (x23 : Int) (r : Int) (h : iDepthOf_L1 p0 x3_3 x23 = some r) : avc Try.prog aciDepthOf_L1 (qiDepthOf_3 r) (stiDepthOf_L1 p0 x3_3 x23) := (OKs_iDeepestOf_L0).2.2.2.1 p0 x3_3 x23 r h
theorem OK_iQueryDepth (p0 : GQuery) : FOk Try.prog 14 [(vGQuery p0)] (fun y => (vI y)) (iQueryDepth p0) := fun r h => (OKs_iDeepestOf_L0).2.2.2.2.1 p0 r h
theorem OK_iDeepestOf (p0 : (List GExpr)) : FOk Try.prog 42 [(.d (.sl 10 (p0.map cGExpr)))] (fun y => (vI y)) (iDeepestOf p0) := fun r h => (OKs_iDeepestOf_L0).2.2.2.2.2 p0 r h
theorem OKs_iQuerySize : (∀ (p0 : GQuery) (r : Int), iQuerySize p0 = some r → ACalls Try.prog 15 [(vGQuery p0)] [] fun x _ => x = (fun y => (vI y)) r) ∧ (∀ (p0 : (List GExpr)) (r : Int), iSizeOfAll p0 = some r → ACalls Try.prog 41 [(.d (.sl 10 (p0.map cGExpr)))] [] fun x _ => x = (fun y => (vI y)) r) ∧ (∀ (p0 : (List GExpr)) (x3 : Int) (x8 : Int) (r : Int), iSizeOfAll_L0 p0 x3 x8 = some r → avc Try.prog aciSizeOfAll_L0 (qiSizeOfAll_1 r) (stiSizeOfAll_L0 p0 x3 x8)) ∧ (∀ (p0 : GExpr) (r : Int), iSizeOf p0 = some r → ACalls Try.prog 13 [(vGExpr p0)] [] fun x _ => x = (fun y => (vI y)) r) ∧ (∀ (p0 : GExpr) (x3 : Int) (x13 : Int) (r : Int), iSizeOf_L0 p0 x3 x13 = some r → avc Try.prog aciSizeOf_L0 (qiSizeOf_1 r) (stiSizeOf_L0 p0 x3 x13)) := by
 refine iQuerySize.mutual_partial_correctness (fun p0 r => ACalls Try.prog 15 [(vGQuery p0)] [] fun x _ => x = (fun y => (vI y)) r) (fun p0 r => ACalls Try.prog 41 [(.d (.sl 10 (p0.map cGExpr)))] [] fun x _ => x = (fun y => (vI y)) r) (fun p0 x3 x8 r => avc Try.prog aciSizeOfAll_L0 (qiSizeOfAll_1 r) (stiSizeOfAll_L0 p0 x3 x8)) (fun p0 r => ACalls Try.prog 13 [(vGExpr p0)] [] fun x _ => x = (fun y => (vI y)) r) (fun p0 x3 x13 r => avc Try.prog aciSizeOf_L0 (qiSizeOf_1 r) (stiSizeOf_L0 p0 x3 x13)) ?_ ?_ ?_ ?_ ?_
 · intro F_iSizeOfAll OK_iSizeOfAll p0 r h
   refine aof triQuerySize ?_
   show avc Try.prog aciQuerySize (qiQuerySize _) ⟨[(0, (vGQuery p0))], []⟩
   delta aciQuerySize
   refine so ?_
   let a0 : St := ⟨[(2, (vI 0)), (1, (.ptr 1 0)), (0, (vGQuery p0))], [(1, bGQuery p0)]⟩
   refine st 2 a0 (nx (so ?_))
   let a1 : St := a0.p [(3, (vGQuery p0))]
   refine st 1 a1 (callg_step ⟨[], [], [], [], [], [(2000000, 4)], [], [4], []⟩ (m := iQuery_exprs p0) (S' := fun (y : (List GExpr)) => ⟨(4, (.osl 4 29 10 (y.map cGExpr))) :: a1.env, a1.bx⟩) h (OK_iQuery_exprs p0) (by kernel_rfl) (by kernel_rfl) (by kernel_rfl) (by kernel_rfl) (fun y => by kernel_rfl) (fun y => by kernel_rfl) ?_)
   clear h; intro y1 h
   refine cs h (OK_iSizeOfAll y1) fun y2 h => ?_
   let a2 : St := a1.p [(2, (vI y2)), (5, (vI y2)), (4, (.osl 4 29 10 (y1.map cGExpr)))]
   refine st 1 a2 (nx (ri ?_))
   injection h with h; subst h
   exact r1 (v := (vI y2))
 · intro F_iSizeOfAll_L0 OK_iSizeOfAll_L0 p0 r h
   refine aof triSizeOfAll ?_
   show avc Try.prog aciSizeOfAll (qiSizeOfAll _) ⟨[(0, (.d (.sl 10 (p0.map cGExpr))))], []⟩
   delta aciSizeOfAll
   refine so ?_
   let a0 : St := ⟨[(2, (vI 0)), (0, (.d (.sl 10 (p0.map cGExpr))))], []⟩
   refine st 1 a0 (nx (so ?_))
   let a1 : St := a0.p [(3, (vI 0))]
   refine st 1 a1 (nx (si (so ?_)))
   let a2 : St := a1.p [(6, (.d (.sl 10 (p0.map cGExpr))))]
   refine st 1 a2 (ps (vI (ln p0)) (vln (sz := 10) (l := p0) (f := cGExpr)) ?_)
   let a3 : St := a2.p [(8, (vI 0)), (7, (vI (ln p0)))]
   exact st 1 a3 (nx (bi (loop_go (s' := stiSizeOfAll_L0 p0 0 0) (wr [] (es (es (es (es er_nil)))) br_nil) (OK_iSizeOfAll_L0 p0 0 0 _ h))))
 · intro F_iSizeOfAll_L0 F_iSizeOf OK_iSizeOfAll_L0 OK_iSizeOf p0 x3 x8 r h
   delta aciSizeOfAll_L0
   refine loop_unroll (so ?_)
   let a4 : St := (stiSizeOfAll_L0 p0 x3 x8).p [(9, (vB (decide (x8 < (ln p0)))))]
   refine st 1 a4 (nx (si ?_))
   refine cd h (fun h => ?_) fun h => ?_
   refine ki (xi (si (bi (so (vs (fun (y : GExpr) => (.rp (oGExpr y))) h (fun y hy => via (l := p0) (f := cGExpr) (g := oGExpr) (k := .i64) hy cGExpr_eq) fun y1 h => ?_)))))
   let a5 : St := ⟨(5, (.ptr 5 0)) :: (11, (vGExpr y1)) :: (10, (.rp (oGExpr y1))) :: a4.env, [(5, bGExpr y1)]⟩
   refine st 3 a5 (nx (oi ?_))
   let a6 : St := a5.p [(13, (vGExpr y1)), (12, (vI x3))]
   refine st 2 a6 (cs h (OK_iSizeOf y1) fun y2 h => ?_)
   let a7 : St := a6.p [(3, (vI (IntKind.wrap .i64 (x3 + y2)))), (15, (vI (IntKind.wrap .i64 (x3 + y2)))), (14, (vI y2))]
   refine st 2 a7 (ni (bn (xi (oi ?_))))
   let a8 : St := a7.p [(8, (vI (IntKind.wrap .i64 (x8 + 1)))), (16, (vI (IntKind.wrap .i64 (x8 + 1))))]
   exact st 2 a8 (ni (loop_back (s' := stiSizeOfAll_L0 p0 (IntKind.wrap .i64 (x3 + y2)) (IntKind.wrap .i64 (x8 + 1))) (wr [] (es (es (es (es er_nil)))) br_nil) (OK_iSizeOfAll_L0 p0 (IntKind.wrap .i64 (x3 + y2)) (IntKind.wrap .i64 (x8 + 1)) _ h)))
   refine ei (te (te (bh (xi (so ?_)))))
   let a9 : St := a4.p [(2, (vI x3)), (17, (vI x3))]
   refine st 2 a9 (nx (ri ?_))
   injection h with h; subst h
   exact r1 (v := (vI x3))
 · intro F_iSizeOfAll F_iSizeOf_L0 OK_iSizeOfAll OK_iSizeOf_L0 p0 r h
   refine aof triSizeOf ?_
   show avc Try.prog aciSizeOf (qiSizeOf _) ⟨[(0, (vGExpr p0))], []⟩
   delta aciSizeOf
   refine so ?_
   let a0 : St := ⟨[(2, (vI 0)), (1, (.ptr 1 0)), (0, (vGExpr p0))], [(1, bGExpr p0)]⟩
   refine st 2 a0 (nx (so ?_))
   let a1 : St := a0.p [(7, (.d (.sl 10 (p0.kids.map cGExpr)))), (6, (.ptr 1 8))]
   refine st 2 a1 (cs h (OK_iSizeOfAll p0.kids) fun y1 h => ?_)
   let a2 : St := a1.p [(3, (vI (IntKind.wrap .i64 (1 + y1)))), (9, (vI (IntKind.wrap .i64 (1 + y1)))), (8, (vI y1))]
   refine st 2 a2 (nx (si (so ?_)))
   let a3 : St := a2.p [(11, (.d (.sl 6 (p0.sub.map cGQuery)))), (10, (.ptr 1 9))]
   refine st 2 a3 (ps (vI (ln p0.sub)) (vln (sz := 6) (l := p0.sub) (f := cGQuery)) ?_)
   let a4 : St := a3.p [(13, (vI 0)), (12, (vI (ln p0.sub)))]
   exact st 1 a4 (nx (bi (loop_go (s' := stiSizeOf_L0 p0 (IntKind.wrap .i64 (1 + y1)) 0) (wr [] (es (es (es (es er_nil)))) br_nil) (OK_iSizeOf_L0 p0 (IntKind.wrap .i64 (1 + y1)) 0 _ h))))
 · intro F_iQuerySize F_iSizeOf_L0 OK_iQuerySize OK_iSizeOf_L0 p0 x3 x13 r h
   delta aciSizeOf_L0
   refine loop_unroll (so ?_)
   let a5 : St := (stiSizeOf_L0 p0 x3 x13).p [(14, (vB (decide (x13 < (ln p0.sub)))))]
   refine st 1 a5 (nx (si ?_))
   refine cd h (fun h => ?_) fun h => ?_
   refine ki (xi (si (bi (so (vs (fun (y : GQuery) => (.rp (oGQuery y))) h (fun y hy => via (l := p0.sub) (f := cGQuery) (g := oGQuery) (k := .i64) hy cGQuery_eq) fun y2 h => ?_)))))
   let a6 : St := ⟨(5, (.ptr 5 0)) :: (16, (vGQuery y2)) :: (15, (.rp (oGQuery y2))) :: a5.env, [(5, bGQuery y2)]⟩
   refine st 3 a6 (nx (oi ?_))
   let a7 : St := a6.p [(18, (vGQuery y2)), (17, (vI x3))]
   refine st 2 a7 (cs h (OK_iQuerySize y2) fun y3 h => ?_)
   let a8 : St := a7.p [(3, (vI (IntKind.wrap .i64 (x3 + y3)))), (20, (vI (IntKind.wrap .i64 (x3 + y3)))), (19, (vI y3))]
   refine st 2 a8 (ni (bn (xi (oi ?_))))
   let a9 : St := a8.p [(13, (vI (IntKind.wrap .i64 (x13 + 1)))), (21, (vI (IntKind.wrap .i64 (x13 + 1))))]
   exact st 2 a9 (ni (loop_back (s' := stiSizeOf_L0 p0 (IntKind.wrap .i64 (x3 + y3)) (IntKind.wrap .i64 (x13 + 1))) (wr [] (es (es (es (es er_nil)))) br_nil) (OK_iSizeOf_L0 p0 (IntKind.wrap .i64 (x3 + y3)) (IntKind.wrap .i64 (x13 + 1)) _ h)))
   refine ei (te (te (bh (xi (so ?_)))))
   let a10 : St := a5.p [(2, (vI x3)), (22, (vI x3))]
   refine st 2 a10 (nx (ri ?_))
   injection h with h; subst h
   exact r1 (v := (vI x3))
theorem OK_iQuerySize (p0 : GQuery) : FOk Try.prog 15 [(vGQuery p0)] (fun y => (vI y)) (iQuerySize p0) := fun r h => (OKs_iQuerySize).1 p0 r h
theorem OK_iSizeOfAll (p0 : (List GExpr)) : FOk Try.prog 41 [(.d (.sl 10 (p0.map cGExpr)))] (fun y => (vI y)) (iSizeOfAll p0) := fun r h => (OKs_iQuerySize).2.1 p0 r h
theorem OK_iSizeOfAll_L0 (p0 : (List GExpr)) (x3 : Int) (x8 : Int) (r : Int) (h : iSizeOfAll_L0 p0 x3 x8 = some r) : avc Try.prog aciSizeOfAll_L0 (qiSizeOfAll_1 r) (stiSizeOfAll_L0 p0 x3 x8) := (OKs_iQuerySize).2.2.1 p0 x3 x8 r h
theorem OK_iSizeOf (p0 : GExpr) : FOk Try.prog 13 [(vGExpr p0)] (fun y => (vI y)) (iSizeOf p0) := fun r h => (OKs_iQuerySize).2.2.2.1 p0 r h
theorem OK_iSizeOf_L0 (p0 : GExpr) (x3 : Int) (x13 : Int) (r : Int) (h : iSizeOf_L0 p0 x3 x13 = some r) : avc Try.prog aciSizeOf_L0 (qiSizeOf_1 r) (stiSizeOf_L0 p0 x3 x13) := (OKs_iQuerySize).2.2.2.2 p0 x3 x13 r h
theorem OK_wLow (p0 : Int) (p1 : Int) : FOk Try.prog 11 [(vI p0), (vI p1)] (fun y => (vI y)) (wLow p0 p1) := by
 intro r h
 rw [wLow] at h
 refine aof trwLow ?_
 show avc Try.prog acwLow (qwLow _) ⟨[(0, (vI p0)), (1, (vI p1))], []⟩
 delta acwLow
 refine so ?_
 let a0 : St := ⟨[(4, (vI 0)), (0, (vI p0)), (1, (vI p1))], []⟩
 refine st 1 a0 (nx (si (so ?_)))
 let a1 : St := a0.p [(7, (vB (decide (p0 < p1)))), (6, (vI p1)), (5, (vI p0))]
 refine st 3 a1 (nx ?_)
 refine cd h (fun h => ?_) fun h => ?_
 refine so ?_
 let a2 : St := a1.p [(4, (vI p0)), (8, (vI p0))]
 refine st 2 a2 (nx (ri (tr ?_)))
 injection h with h; subst h
 exact r1 (v := (vI p0))
 refine ki (xi (so ?_))
 let a3 : St := a1.p [(4, (vI p1)), (9, (vI p1))]
 refine st 2 a3 (nx (ri ?_))
 injection h with h; subst h
 exact r1 (v := (vI p1))
theorem OKs_wFnDepth_L1 (y2 : GExpr) : (∀ (x4_8 : Int) (x5_9 : Int) (x7 : Int) (r : Bool), wFnDepth_L1 y2 x4_8 x5_9 x7 = some r → avc Try.prog acwFnDepth_L1 (qwFnDepth_3 r) (stwFnDepth_L1 y2 x4_8 x5_9 x7)) := by
 refine wFnDepth_L1.partial_correctness y2 (fun x4_8 x5_9 x7 r => avc Try.prog acwFnDepth_L1 (qwFnDepth_3 r) (stwFnDepth_L1 y2 x4_8 x5_9 x7)) ?_
 · intro F_wFnDepth_L1 OK_wFnDepth_L1 x4_8 x5_9 x7 r h
   delta acwFnDepth_L1
   refine loop_unroll (si (so ?_))
   let a19 : St := (stwFnDepth_L1 y2 x4_8 x5_9 x7).p [(40, (.d (.sl 6 (y2.sub.map cGQuery)))), (39, (.ptr 3 9)), (38, (vI x7))]
   refine st 3 a19 (ps (vI (ln y2.sub)) (vln (sz := 6) (l := y2.sub) (f := cGQuery)) ?_)
   let a20 : St := a19.p [(42, (vB (decide (x7 < (ln y2.sub))))), (41, (vI (ln y2.sub)))]
   refine st 1 a20 (nx ?_)
   refine cd h (fun h => ?_) fun h => ?_
   refine ki (xi (si (bi (so ?_))))
   let a21 : St := a20.p [(49, (vI x7)), (48, (.d (.sl 6 (y2.sub.map cGQuery)))), (47, (.ptr 3 9)), (46, (vI (IntKind.wrap .i64 (0 - x4_8)))), (45, (vI x4_8))]
   refine st 5 a21 (vs (fun (y : GQuery) => (.rp (oGQuery y))) h (fun y hy => via (l := y2.sub) (f := cGQuery) (g := oGQuery) (k := .i64) hy cGQuery_eq) fun y10 h => ?_)
   let a22 : St := a21.p [(51, (vGQuery y10)), (50, (.rp (oGQuery y10)))]
   refine st 1 a22 (cs h (OK_iQueryDepth y10) fun y11 h => ?_)
   let a23 : St := a22.p [(53, (vI (IntKind.wrap .i64 (0 - y11)))), (52, (vI y11))]
   refine st 1 a23 (cs h (OK_wLow (IntKind.wrap .i64 (0 - x4_8)) (IntKind.wrap .i64 (0 - y11))) fun y12 h => ?_)
   let a24 : St := a23.p [(4, (vI (IntKind.wrap .i64 (0 - y12)))), (55, (vI (IntKind.wrap .i64 (0 - y12)))), (54, (vI y12))]
   refine st 2 a24 (nx (oi ?_))
   let a25 : St := a24.p [(59, (vI x7)), (58, (.d (.sl 6 (y2.sub.map cGQuery)))), (57, (.ptr 3 9)), (56, (vI x5_9))]
   refine st 4 a25 (vs (fun (y : GQuery) => (.rp (oGQuery y))) h (fun y hy => via (l := y2.sub) (f := cGQuery) (g := oGQuery) (k := .i64) hy cGQuery_eq) fun y13 h => ?_)
   let a26 : St := a25.p [(61, (vGQuery y13)), (60, (.rp (oGQuery y13)))]
   refine st 1 a26 (cs h (OK_iQuerySize y13) fun y14 h => ?_)
   let a27 : St := a26.p [(5, (vI (IntKind.wrap .i64 (x5_9 + y14)))), (63, (vI (IntKind.wrap .i64 (x5_9 + y14)))), (62, (vI y14))]
   refine st 2 a27 (ni (bn (xi (oi ?_))))
   let a28 : St := a27.p [(7, (vI (IntKind.wrap .i64 (x7 + 1)))), (44, (vI (IntKind.wrap .i64 (x7 + 1)))), (43, (vI x7))]
   exact st 3 a28 (ni (loop_back (s' := stwFnDepth_L1 y2 (IntKind.wrap .i64 (0 - y12)) (IntKind.wrap .i64 (x5_9 + y14)) (IntKind.wrap .i64 (x7 + 1))) (wr [] (es (es (es (es er_nil)))) (bs_ br_nil)) (OK_wFnDepth_L1 (IntKind.wrap .i64 (0 - y12)) (IntKind.wrap .i64 (x5_9 + y14)) (IntKind.wrap .i64 (x7 + 1)) _ h)))
   refine ei (te (te (bh (xi (so ?_)))))
   let a29 : St := a20.p [(64, (vGExpr y2))]
   refine st 1 a29 (cs h (OK_iDepthOf y2) fun y15 h => ?_)
   let a30 : St := a29.p [(69, (vB (decide (y15 = (IntKind.wrap .i64 (x4_8 + 1)))))), (68, (vB (decide (y15 = (IntKind.wrap .i64 (x4_8 + 1)))))), (67, (vI (IntKind.wrap .i64 (x4_8 + 1)))), (66, (vI x4_8)), (65, (vI y15))]
   refine st 4 a30 (gp true (decide (y15 = (IntKind.wrap .i64 (x4_8 + 1)))) (vGExpr y2) (fun hc => vl) ?_)
   refine gcall_step (p := true) (b := (decide (y15 = (IntKind.wrap .i64 (x4_8 + 1))))) (m := iSizeOf y2) (dflt := default) (args := [(vGExpr y2)]) (v' := (fun y => (vI y))) h (by kernel_rfl) (OK_iSizeOf y2) (fun hc => by kernel_rfl) (by kernel_rfl) (fun _ => rfl) (fun hc => (Eq.trans (b := ([(true && ((decide (y15 = (IntKind.wrap .i64 (x4_8 + 1)))) == true))] : List Bool).all id) (by kernel_rfl) (all_c hc rfl))) ?_
   clear h; intro y16 h
   refine gp true (decide (y15 = (IntKind.wrap .i64 (x4_8 + 1)))) (vI x5_9) (fun hc => vl) ?_
   refine gp true (decide (y15 = (IntKind.wrap .i64 (x4_8 + 1)))) (vB (decide (y16 = x5_9))) (fun hc => vop_val1 (Eq.trans (b := ([(true && ((decide (y15 = (IntKind.wrap .i64 (x4_8 + 1)))) == true)), (true && ((decide (y15 = (IntKind.wrap .i64 (x4_8 + 1)))) == true))] : List Bool).all id) (by kernel_rfl) (all_c hc (all_c hc rfl))) (by kernel_rfl)) ?_
   refine vs (fun (y : Bool) => (vB y)) h (fun y hy => vop_pickV hy (p := (true && ((decide (y15 = (IntKind.wrap .i64 (x4_8 + 1)))) == true))) (q := true) (by kernel_rfl) (by kernel_rfl) (by kernel_rfl) (by kernel_rfl) (fun hb => gc_t rfl hb) (fun _ => rfl)) fun y17 h => ?_
   let a31 : St := a30.p [(75, (vB y17)), (74, (vB y17)), (73, (.ite (true && ((decide (y15 = (IntKind.wrap .i64 (x4_8 + 1)))) == true)) (vB (decide (y16 = x5_9))))), (72, (.ite (true && ((decide (y15 = (IntKind.wrap .i64 (x4_8 + 1)))) == true)) (vI x5_9))), (71, (.ite (true && ((decide (y15 = (IntKind.wrap .i64 (x4_8 + 1)))) == true)) (vI y16))), (70, (.ite (true && ((decide (y15 = (IntKind.wrap .i64 (x4_8 + 1)))) == true)) (vGExpr y2)))]
   refine st 1 a31 (gp true y17 (vI x5_9) (fun hc => vl) (gp true y17 (vI x4_8) (fun hc => vl) (gp true y17 (vB (decide (x4_8 < x5_9))) (fun hc => vop_val1 (Eq.trans (b := ([(true && (y17 == true)), (true && (y17 == true))] : List Bool).all id) (by kernel_rfl) (all_c hc (all_c hc rfl))) (by kernel_rfl)) ?_)))
   refine vs (fun (y : Bool) => (vB y)) h (fun y hy => vop_pickV hy (p := (true && (y17 == true))) (q := true) (by kernel_rfl) (by kernel_rfl) (by kernel_rfl) (by kernel_rfl) (fun hb => gc_t rfl hb) (fun _ => rfl)) fun y18 h => ?_
   let a32 : St := a31.p [(2, (vB y18)), (79, (vB y18)), (78, (.ite (gT y17) (vB (decide (x4_8 < x5_9))))), (77, (.ite (gT y17) (vI x4_8))), (76, (.ite (gT y17) (vI x5_9)))]
   refine st 1 a32 (nx (ri ?_))
   injection h with h; subst h
   exact r1 (v := (vB y18))
theorem OK_wFnDepth_L1 (y2 : GExpr) (x4_8 : Int) (x5_9 : Int) (x7 : Int) (r : Bool) (h : wFnDepth_L1 y2 x4_8 x5_9 x7 = some r) : avc Try.prog acwFnDepth_L1 (qwFnDepth_3 r) (stwFnDepth_L1 y2 x4_8 x5_9 x7) := (OKs_wFnDepth_L1 y2) x4_8 x5_9 x7 r h
theorem OKs_wFnDepth_L0 (y2 : GExpr) : (∀ (x4 : Int) (x5 : Int) (x6 : Int) (r : Bool), wFnDepth_L0 y2 x4 x5 x6 = some r → avc Try.prog acwFnDepth_L0 (qwFnDepth_1 r) (stwFnDepth_L0 y2 x4 x5 x6)) := by
 refine wFnDepth_L0.partial_correctness y2 (fun x4 x5 x6 r => avc Try.prog acwFnDepth_L0 (qwFnDepth_1 r) (stwFnDepth_L0 y2 x4 x5 x6)) ?_
 · intro F_wFnDepth_L0 OK_wFnDepth_L0 x4 x5 x6 r h
   delta acwFnDepth_L0
   refine loop_unroll (si (so ?_))
   let a8 : St := (stwFnDepth_L0 y2 x4 x5 x6).p [(14, (.d (.sl 10 (y2.kids.map cGExpr)))), (13, (.ptr 3 8)), (12, (vI x6))]
   refine st 3 a8 (ps (vI (ln y2.kids)) (vln (sz := 10) (l := y2.kids) (f := cGExpr)) ?_)
   let a9 : St := a8.p [(16, (vB (decide (x6 < (ln y2.kids))))), (15, (vI (ln y2.kids)))]
   refine st 1 a9 (nx ?_)
   refine cd h (fun h => ?_) fun h => ?_
   refine ki (xi (si (bi (so ?_))))
   let a10 : St := a9.p [(23, (vI x6)), (22, (.d (.sl 10 (y2.kids.map cGExpr)))), (21, (.ptr 3 8)), (20, (vI (IntKind.wrap .i64 (0 - x4)))), (19, (vI x4))]
   refine st 5 a10 (vs (fun (y : GExpr) => (.rp (oGExpr y))) h (fun y hy => via (l := y2.kids) (f := cGExpr) (g := oGExpr) (k := .i64) hy cGExpr_eq) fun y3 h => ?_)
   let a11 : St := a10.p [(25, (vGExpr y3)), (24, (.rp (oGExpr y3)))]
   refine st 1 a11 (cs h (OK_iDepthOf y3) fun y4 h => ?_)
   let a12 : St := a11.p [(27, (vI (IntKind.wrap .i64 (0 - y4)))), (26, (vI y4))]
   refine st 1 a12 (cs h (OK_wLow (IntKind.wrap .i64 (0 - x4)) (IntKind.wrap .i64 (0 - y4))) fun y5 h => ?_)
   let a13 : St := a12.p [(4, (vI (IntKind.wrap .i64 (0 - y5)))), (29, (vI (IntKind.wrap .i64 (0 - y5)))), (28, (vI y5))]
   refine st 2 a13 (nx (oi ?_))
   let a14 : St := a13.p [(33, (vI x6)), (32, (.d (.sl 10 (y2.kids.map cGExpr)))), (31, (.ptr 3 8)), (30, (vI x5))]
   refine st 4 a14 (vs (fun (y : GExpr) => (.rp (oGExpr y))) h (fun y hy => via (l := y2.kids) (f := cGExpr) (g := oGExpr) (k := .i64) hy cGExpr_eq) fun y6 h => ?_)
   let a15 : St := a14.p [(35, (vGExpr y6)), (34, (.rp (oGExpr y6)))]
   refine st 1 a15 (cs h (OK_iSizeOf y6) fun y7 h => ?_)
   let a16 : St := a15.p [(5, (vI (IntKind.wrap .i64 (x5 + y7)))), (37, (vI (IntKind.wrap .i64 (x5 + y7)))), (36, (vI y7))]
   refine st 2 a16 (ni (bn (xi (oi ?_))))
   let a17 : St := a16.p [(6, (vI (IntKind.wrap .i64 (x6 + 1)))), (18, (vI (IntKind.wrap .i64 (x6 + 1)))), (17, (vI x6))]
   exact st 3 a17 (ni (loop_back (s' := stwFnDepth_L0 y2 (IntKind.wrap .i64 (0 - y5)) (IntKind.wrap .i64 (x5 + y7)) (IntKind.wrap .i64 (x6 + 1))) (wr [] (es (es (es (es er_nil)))) (bs_ br_nil)) (OK_wFnDepth_L0 (IntKind.wrap .i64 (0 - y5)) (IntKind.wrap .i64 (x5 + y7)) (IntKind.wrap .i64 (x6 + 1)) _ h)))
   refine ei (te (te (bh (xi (si (so ?_))))))
   let a18 : St := a9.p [(7, (vI 0))]
   exact st 1 a18 (nx (bi (loop_go (s' := stwFnDepth_L1 y2 x4 x5 0) (wr [] (es (es (es (es er_nil)))) (bs_ br_nil)) (OK_wFnDepth_L1 y2 x4 x5 0 _ h))))
theorem OK_wFnDepth_L0 (y2 : GExpr) (x4 : Int) (x5 : Int) (x6 : Int) (r : Bool) (h : wFnDepth_L0 y2 x4 x5 x6 = some r) : avc Try.prog acwFnDepth_L0 (qwFnDepth_1 r) (stwFnDepth_L0 y2 x4 x5 x6) := (OKs_wFnDepth_L0 y2) x4 x5 x6 r h
theorem OK_wFnDepth (p0 : (List Int)) : FOk Try.prog 3 [(.d (.sl 1 (p0.map cU8)))] (fun y => (vB y)) (wFnDepth p0) := by
 intro r h
 rw [wFnDepth] at h
 refine aof trwFnDepth ?_
 show avc Try.prog acwFnDepth (qwFnDepth _) ⟨[(0, (.d (.sl 1 (p0.map cU8))))], []⟩
 delta acwFnDepth
 refine so ?_
 let a0 : St := ⟨[(2, (vB false)), (0, (.d (.sl 1 (p0.map cU8))))], []⟩
 refine st 1 a0 (nx (si (so ?_)))
 let a1 : St := a0.p [(8, (.d (.sl 1 (p0.map cU8))))]
 refine st 1 a1 (cs h (OK_wBig p0) fun y1 h => (nx ?_))
 refine cd h (fun h => ?_) fun h => ?_
 refine so ?_
 let a2 : St := a1.p [(2, (vB true)), (9, (vB y1))]
 refine st 1 a2 (nx (ri (tr ?_)))
 injection h with h; subst h
 exact r1 (v := (vB true))
 refine ki (xi (so ?_))
 let a3 : St := a1.p [(10, (.d (.sl 1 (p0.map cU8)))), (9, (vB y1))]
 refine st 1 a3 (cs h (OK_sDrawDepthOf p0) fun y2 h => ?_)
 let a4 : St := ⟨(3, (.ptr 3 0)) :: (11, (vGExpr y2)) :: a3.env, [(3, bGExpr y2)]⟩
 refine st 2 a4 (nx (so ?_))
 let a5 : St := a4.p [(4, (vI 0))]
 refine st 1 a5 (nx (so ?_))
 let a6 : St := a5.p [(5, (vI 1))]
 refine st 1 a6 (nx (si (so ?_)))
 let a7 : St := a6.p [(6, (vI 0))]
 exact st 1 a7 (nx (bi (loop_go (s' := stwFnDepth_L0 y2 0 1 0) (wr [] (es (es (es (es er_nil)))) (bs_ br_nil)) (OK_wFnDepth_L0 y2 0 1 0 _ h))))
theorem law_wFnDepth (hp : ∀ (x0 : (List Int)) (_ : (okL okU8) x0), wFnDepth x0 = some true) (ls : List (List D)) (hw : WtA Try.prog [22] ls) (hok : ∀ l ∈ ls, ∀ x ∈ l, OkD x) : ACalls Try.prog 3 (argsV Try.prog [22] ls) [] fun x _ => x = .d (.b true) := by
  rcases hw with _ | ⟨h0, hw⟩
  cases hw
  obtain ⟨x0, rfl⟩ := de22 h0
  have a0 : argV Try.prog 22 ((cSl 1 cU8) x0) = (.d (.sl 1 (x0.map cU8))) := by kernel_rfl
  have k0 : ∀ d ∈ (cSl 1 cU8) x0, OkD d := hok _ (by simp)
  simp only [argsV, a0]
  exact OK_wFnDepth x0 true (hp x0 (ko_l _ (fun y hy => ko_u8 _ hy) k0))
end Go.Proofs.Ytcfkipkafnlliaa
