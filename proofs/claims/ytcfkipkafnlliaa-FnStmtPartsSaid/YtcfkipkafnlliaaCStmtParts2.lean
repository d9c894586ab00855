/- That the code computes these functions (printed by a program). -/
import Derived.Test.YtcfkipkafnlliaaCStmtParts1
namespace Go.Proofs.Ytcfkipkafnlliaa
open Go Go.RowKit Go.Ab
theorem OK_sL8Draw (p0 : (List Int)) : FOk Try.prog 44 [(.d (.sl 1 (p0.map cU8)))] (fun y => (vGStmt y)) (sL8Draw p0) := by
 intro r h
 rw [sL8Draw] at h
 refine aof trsL8Draw ?_
 show avc Try.prog acsL8Draw (qsL8Draw _) ⟨[(0, (.d (.sl 1 (p0.map cU8))))], []⟩
 delta acsL8Draw
 refine so ?_
 let a0 : St := ⟨[(2, (.ptr 2 0)), (0, (.d (.sl 1 (p0.map cU8))))], [(2, [(vI 0), (vB false), (.nil 13), (.nil 3), (.nil 10), (.nil 11), (vI 0), (vS []), (.nil 1), (.nil 1), (.nil 10), (.nil 10)])]⟩
 refine st 1 a0 (nx (so ?_))
 let a1 : St := a0.p [(5, (.d (.sl 1 (p0.map cU8))))]
 refine st 1 a1 ?_
 refine callg_step ⟨[], [], [], [], [], [], [(31, 6)], [], []⟩ (m := sL1New p0) (S' := fun (y : GL1Cur) => ⟨(6, (.ptr 6 0)) :: a1.env, [(6, bGL1Cur y), (2, [(vI 0), (vB false), (.nil 13), (.nil 3), (.nil 10), (.nil 11), (vI 0), (vS []), (.nil 1), (.nil 1), (.nil 10), (.nil 10)])]⟩) h (OK_sL1New p0) (by kernel_rfl) (by kernel_rfl) (by kernel_rfl) (by kernel_rfl) (fun y => by kernel_rfl) (fun y => by kernel_rfl) ?_
 clear h; intro y1 h
 let a2 : St := ⟨(3, (.ptr 6 0)) :: (6, (.ptr 6 0)) :: a1.env, [(6, bGL1Cur y1), (2, [(vI 0), (vB false), (.nil 13), (.nil 3), (.nil 10), (.nil 11), (vI 0), (vS []), (.nil 1), (.nil 1), (.nil 10), (.nil 10)])]⟩
 refine st 1 a2 (nx (so ?_))
 let a3 : St := a2.p [(9, (.d (.sl 1 (p0.map cU8)))), (8, (.ptr 6 0)), (7, (.ptr 6 0))]
 refine st 3 a3 (cs h (OK_sL1Size p0 3) fun y2 h => ?_)
 refine callg_step ⟨[(1000000, 6)], [], [], [], [], [], [], [], []⟩ (m := sL1Below y1 y2) (S' := fun (y : Int × GL1Cur) => ⟨(11, (vI y.1)) :: (10, (vI y2)) :: a3.env, [(6, bGL1Cur y.2), (2, [(vI 0), (vB false), (.nil 13), (.nil 3), (.nil 10), (.nil 11), (vI 0), (vS []), (.nil 1), (.nil 1), (.nil 10), (.nil 10)])]⟩) h (OK_sL1Below y1 y2) (by kernel_rfl) (by kernel_rfl) (by kernel_rfl) (by kernel_rfl) (fun y => by kernel_rfl) (fun y => by kernel_rfl) ?_
 clear h; intro y3 h
 let a4 : St := ⟨(12, (vI (IntKind.wrap .i64 (1 + y3.1)))) :: (11, (vI y3.1)) :: (10, (vI y2)) :: a3.env, [(6, bGL1Cur y3.2), (2, [(vI 0), (vB false), (.nil 13), (.nil 3), (.nil 10), (.nil 11), (vI 0), (vS []), (.nil 1), (.nil 1), (.nil 10), (.nil 10)])]⟩
 refine st 1 a4 ?_
 refine callg_step ⟨[(1000000, 6)], [], [], [], [], [(2010009, 300330009)], [(10000002, 40160002), (10000003, 40160003), (10000004, 40160004), (10000005, 40160005), (10000008, 40160008), (10000010, 40160010), (10000011, 40160011)], [300330009], []⟩ (m := sL8Right_X y3.2 (IntKind.wrap .i64 (1 + y3.1))) (S' := fun (y : GStmt × GL1Cur) => ⟨(13, (.agv [(vI y.1.kind), (vB y.1.query.distinct), (.tre 40160002), (.tre 40160003), (.tre 40160004), (.tre 40160005), (vI y.1.query.limit), (vS y.1.table), (.tre 40160008), (.osl 300330009 9 1 (y.1.cols.map cStr)), (.tre 40160010), (.tre 40160011)])) :: a4.env, [(40160002, [(.trc 13 (y.1.query.items.map cGItem))]), (40160003, [(.trc 3 (y.1.query.from_.map cGSource))]), (40160004, [(.trc 10 (y.1.query.where_.map cGExpr))]), (40160005, [(.trc 11 (y.1.query.order.map cGSortKey))]), (40160008, [(.trc 1 (y.1.rows.map (cSl 10 cGExpr)))]), (40160010, [(.trc 10 (y.1.sets.map cGExpr))]), (40160011, [(.trc 10 (y.1.where_.map cGExpr))]), (6, bGL1Cur y.2), (2, [(vI 0), (vB false), (.nil 13), (.nil 3), (.nil 10), (.nil 11), (vI 0), (vS []), (.nil 1), (.nil 1), (.nil 10), (.nil 10)])]⟩) h (OK_sL8Right_X y3.2 (IntKind.wrap .i64 (1 + y3.1))) (by kernel_rfl) (by kernel_rfl) (by kernel_rfl) (by kernel_rfl) (fun y => by kernel_rfl) (fun y => by kernel_rfl) ?_
 clear h; intro y4 h
 let a5 : St := ⟨(4, (.ptr 4 0)) :: (13, (.agv [(vI y4.1.kind), (vB y4.1.query.distinct), (.tre 40160002), (.tre 40160003), (.tre 40160004), (.tre 40160005), (vI y4.1.query.limit), (vS y4.1.table), (.tre 40160008), (.osl 300330009 9 1 (y4.1.cols.map cStr)), (.tre 40160010), (.tre 40160011)])) :: a4.env, [(4, [(vI y4.1.kind), (vB y4.1.query.distinct), (.tre 40160002), (.tre 40160003), (.tre 40160004), (.tre 40160005), (vI y4.1.query.limit), (vS y4.1.table), (.tre 40160008), (.osl 300330009 9 1 (y4.1.cols.map cStr)), (.tre 40160010), (.tre 40160011)]), (40160002, [(.trc 13 (y4.1.query.items.map cGItem))]), (40160003, [(.trc 3 (y4.1.query.from_.map cGSource))]), (40160004, [(.trc 10 (y4.1.query.where_.map cGExpr))]), (40160005, [(.trc 11 (y4.1.query.order.map cGSortKey))]), (40160008, [(.trc 1 (y4.1.rows.map (cSl 10 cGExpr)))]), (40160010, [(.trc 10 (y4.1.sets.map cGExpr))]), (40160011, [(.trc 10 (y4.1.where_.map cGExpr))]), (6, bGL1Cur y4.2), (2, [(vI 0), (vB false), (.nil 13), (.nil 3), (.nil 10), (.nil 11), (vI 0), (vS []), (.nil 1), (.nil 1), (.nil 10), (.nil 10)])]⟩
 refine st 2 a5 (nx (si (so ?_)))
 let a6 : St := a5.p [(14, (.ptr 6 0))]
 refine st 1 a6 ?_
 refine callg_step ⟨[(1000000, 6)], [], [], [], [], [], [], [], []⟩ (m := sL1Below y4.2 14) (S' := fun (y : Int × GL1Cur) => ⟨(15, (vI y.1)) :: a6.env, [(4, [(vI y4.1.kind), (vB y4.1.query.distinct), (.tre 40160002), (.tre 40160003), (.tre 40160004), (.tre 40160005), (vI y4.1.query.limit), (vS y4.1.table), (.tre 40160008), (.osl 300330009 9 1 (y4.1.cols.map cStr)), (.tre 40160010), (.tre 40160011)]), (40160002, [(.trc 13 (y4.1.query.items.map cGItem))]), (40160003, [(.trc 3 (y4.1.query.from_.map cGSource))]), (40160004, [(.trc 10 (y4.1.query.where_.map cGExpr))]), (40160005, [(.trc 11 (y4.1.query.order.map cGSortKey))]), (40160008, [(.trc 1 (y4.1.rows.map (cSl 10 cGExpr)))]), (40160010, [(.trc 10 (y4.1.sets.map cGExpr))]), (40160011, [(.trc 10 (y4.1.where_.map cGExpr))]), (6, bGL1Cur y.2), (2, [(vI 0), (vB false), (.nil 13), (.nil 3), (.nil 10), (.nil 11), (vI 0), (vS []), (.nil 1), (.nil 1), (.nil 10), (.nil 10)])]⟩) h (OK_sL1Below y4.2 14) (by kernel_rfl) (by kernel_rfl) (by kernel_rfl) (by kernel_rfl) (fun y => by kernel_rfl) (fun y => by kernel_rfl) ?_
 clear h; intro y5 h
 refine nx (bi (so ?_))
 let a7 : St := ⟨(16, (vB (decide (y5.1 = 0)))) :: (17, (vB (decide (y5.1 = 0)))) :: (15, (vI y5.1)) :: a6.env, [(4, [(vI y4.1.kind), (vB y4.1.query.distinct), (.tre 40160002), (.tre 40160003), (.tre 40160004), (.tre 40160005), (vI y4.1.query.limit), (vS y4.1.table), (.tre 40160008), (.osl 300330009 9 1 (y4.1.cols.map cStr)), (.tre 40160010), (.tre 40160011)]), (40160002, [(.trc 13 (y4.1.query.items.map cGItem))]), (40160003, [(.trc 3 (y4.1.query.from_.map cGSource))]), (40160004, [(.trc 10 (y4.1.query.where_.map cGExpr))]), (40160005, [(.trc 11 (y4.1.query.order.map cGSortKey))]), (40160008, [(.trc 1 (y4.1.rows.map (cSl 10 cGExpr)))]), (40160010, [(.trc 10 (y4.1.sets.map cGExpr))]), (40160011, [(.trc 10 (y4.1.where_.map cGExpr))]), (6, bGL1Cur y5.2), (2, [(vI 0), (vB false), (.nil 13), (.nil 3), (.nil 10), (.nil 11), (vI 0), (vS []), (.nil 1), (.nil 1), (.nil 10), (.nil 10)])]⟩
 refine st 2 a7 (nx ?_)
 refine cd h (fun h => ?_) fun h => ?_
 refine oi ?_
 let a8 : St := a7.p [(18, (.ptr 6 0))]
 refine st 1 a8 ?_
 refine callg_step ⟨[(1000000, 6)], [], [], [], [], [], [], [], []⟩ (m := sL1Below y5.2 7) (S' := fun (y : Int × GL1Cur) => ⟨(19, (vI y.1)) :: a8.env, [(4, [(vI y4.1.kind), (vB y4.1.query.distinct), (.tre 40160002), (.tre 40160003), (.tre 40160004), (.tre 40160005), (vI y4.1.query.limit), (vS y4.1.table), (.tre 40160008), (.osl 300330009 9 1 (y4.1.cols.map cStr)), (.tre 40160010), (.tre 40160011)]), (40160002, [(.trc 13 (y4.1.query.items.map cGItem))]), (40160003, [(.trc 3 (y4.1.query.from_.map cGSource))]), (40160004, [(.trc 10 (y4.1.query.where_.map cGExpr))]), (40160005, [(.trc 11 (y4.1.query.order.map cGSortKey))]), (40160008, [(.trc 1 (y4.1.rows.map (cSl 10 cGExpr)))]), (40160010, [(.trc 10 (y4.1.sets.map cGExpr))]), (40160011, [(.trc 10 (y4.1.where_.map cGExpr))]), (6, bGL1Cur y.2), (2, [(vI 0), (vB false), (.nil 13), (.nil 3), (.nil 10), (.nil 11), (vI 0), (vS []), (.nil 1), (.nil 1), (.nil 10), (.nil 10)])]⟩) h (OK_sL1Below y5.2 7) (by kernel_rfl) (by kernel_rfl) (by kernel_rfl) (by kernel_rfl) (fun y => by kernel_rfl) (fun y => by kernel_rfl) ?_
 clear h; intro y6 h
 let a9 : St := ⟨(21, (.ptr 4 0)) :: (20, (vI (IntKind.wrap .i64 (y6.1 - 1)))) :: (19, (vI y6.1)) :: a8.env, [(4, [(vI (IntKind.wrap .i64 (y6.1 - 1))), (vB y4.1.query.distinct), (.tre 40160002), (.tre 40160003), (.tre 40160004), (.tre 40160005), (vI y4.1.query.limit), (vS y4.1.table), (.tre 40160008), (.osl 300330009 9 1 (y4.1.cols.map cStr)), (.tre 40160010), (.tre 40160011)]), (40160002, [(.trc 13 (y4.1.query.items.map cGItem))]), (40160003, [(.trc 3 (y4.1.query.from_.map cGSource))]), (40160004, [(.trc 10 (y4.1.query.where_.map cGExpr))]), (40160005, [(.trc 11 (y4.1.query.order.map cGSortKey))]), (40160008, [(.trc 1 (y4.1.rows.map (cSl 10 cGExpr)))]), (40160010, [(.trc 10 (y4.1.sets.map cGExpr))]), (40160011, [(.trc 10 (y4.1.where_.map cGExpr))]), (6, bGL1Cur y6.2), (2, [(vI 0), (vB false), (.nil 13), (.nil 3), (.nil 10), (.nil 11), (vI 0), (vS []), (.nil 1), (.nil 1), (.nil 10), (.nil 10)])]⟩
 refine st 3 a9 (ni (bn ?_))
 exact next_step (s' := stsL8Draw_J0 y4 (IntKind.wrap .i64 (y6.1 - 1)) y4.1.query.limit y4.1.table y4.1.cols y4.1.rows y4.1.sets y4.1.where_) (tw [.rn [(40160002, 60116000), (40160003, 60116001), (40160004, 60116002), (40160005, 60116003), (40160008, 60116004), (40160010, 60116005), (40160011, 60116006)]] (wr [(300330009, .old 300330009)] (es (es er_nil)) (bs_ (br_cons (c0 := [(vI (IntKind.wrap .i64 (y6.1 - 1))), (vB y4.1.query.distinct), (.tre 60116000), (.tre 60116001), (.tre 60116002), (.tre 60116003), (vI y4.1.query.limit), (vS y4.1.table), (.tre 60116004), (.osl 300330009 9 1 (y4.1.cols.map cStr)), (.tre 60116005), (.tre 60116006)]) (by kernel_rfl) (vrs_cons (vr_same (by kernel_rfl) (by kernel_rfl)) (vrs_cons (vr_same (by kernel_rfl) (by kernel_rfl)) (vrs_cons (vr_same (by kernel_rfl) (by kernel_rfl)) (vrs_cons (vr_same (by kernel_rfl) (by kernel_rfl)) (vrs_cons (vr_same (by kernel_rfl) (by kernel_rfl)) (vrs_cons (vr_same (by kernel_rfl) (by kernel_rfl)) (vrs_cons (vr_same (by kernel_rfl) (by kernel_rfl)) (vrs_cons (vr_same (by kernel_rfl) (by kernel_rfl)) (vrs_cons (vr_same (by kernel_rfl) (by kernel_rfl)) (vrs_cons (vr_old (t := 300330009) (by kernel_rfl) (by kernel_rfl)) (vrs_cons (vr_same (by kernel_rfl) (by kernel_rfl)) (vrs_cons (vr_same (by kernel_rfl) (by kernel_rfl)) (vrs_nil))))))))))))) (bs_ (bs_ (bs_ (bs_ (bs_ (bs_ (bs_ br_nil))))))))))) (OK_sL8Draw_J0 y4 (IntKind.wrap .i64 (y6.1 - 1)) y4.1.query.limit y4.1.table y4.1.cols y4.1.rows y4.1.sets y4.1.where_ _ h)
 refine so ?_
 let a10 : St := a7.p [(22, (vB (decide (y5.1 = 1)))), (23, (vB (decide (y5.1 = 1))))]
 refine st 2 a10 (nx ?_)
 refine cd h (fun h => ?_) fun h => ?_
 refine oi ?_
 let a11 : St := a10.p [(24, (.ptr 6 0))]
 refine st 1 a11 ?_
 refine callg_step ⟨[(1000000, 6)], [], [], [], [], [], [], [], []⟩ (m := sL2Any y5.2) (S' := fun (y : (List UInt8) × GL1Cur) => ⟨(25, (vS y.1)) :: a11.env, [(4, [(vI y4.1.kind), (vB y4.1.query.distinct), (.tre 40160002), (.tre 40160003), (.tre 40160004), (.tre 40160005), (vI y4.1.query.limit), (vS y4.1.table), (.tre 40160008), (.osl 300330009 9 1 (y4.1.cols.map cStr)), (.tre 40160010), (.tre 40160011)]), (40160002, [(.trc 13 (y4.1.query.items.map cGItem))]), (40160003, [(.trc 3 (y4.1.query.from_.map cGSource))]), (40160004, [(.trc 10 (y4.1.query.where_.map cGExpr))]), (40160005, [(.trc 11 (y4.1.query.order.map cGSortKey))]), (40160008, [(.trc 1 (y4.1.rows.map (cSl 10 cGExpr)))]), (40160010, [(.trc 10 (y4.1.sets.map cGExpr))]), (40160011, [(.trc 10 (y4.1.where_.map cGExpr))]), (6, bGL1Cur y.2), (2, [(vI 0), (vB false), (.nil 13), (.nil 3), (.nil 10), (.nil 11), (vI 0), (vS []), (.nil 1), (.nil 1), (.nil 10), (.nil 10)])]⟩) h (OK_sL2Any y5.2) (by kernel_rfl) (by kernel_rfl) (by kernel_rfl) (by kernel_rfl) (fun y => by kernel_rfl) (fun y => by kernel_rfl) ?_
 clear h; intro y7 h
 let a12 : St := ⟨(26, (.ptr 4 7)) :: (25, (vS y7.1)) :: a11.env, [(4, [(vI y4.1.kind), (vB y4.1.query.distinct), (.tre 40160002), (.tre 40160003), (.tre 40160004), (.tre 40160005), (vI y4.1.query.limit), (vS y7.1), (.tre 40160008), (.osl 300330009 9 1 (y4.1.cols.map cStr)), (.tre 40160010), (.tre 40160011)]), (40160002, [(.trc 13 (y4.1.query.items.map cGItem))]), (40160003, [(.trc 3 (y4.1.query.from_.map cGSource))]), (40160004, [(.trc 10 (y4.1.query.where_.map cGExpr))]), (40160005, [(.trc 11 (y4.1.query.order.map cGSortKey))]), (40160008, [(.trc 1 (y4.1.rows.map (cSl 10 cGExpr)))]), (40160010, [(.trc 10 (y4.1.sets.map cGExpr))]), (40160011, [(.trc 10 (y4.1.where_.map cGExpr))]), (6, bGL1Cur y7.2), (2, [(vI 0), (vB false), (.nil 13), (.nil 3), (.nil 10), (.nil 11), (vI 0), (vS []), (.nil 1), (.nil 1), (.nil 10), (.nil 10)])]⟩
 refine st 2 a12 (ni (bn ?_))
 exact next_step (s' := stsL8Draw_J0 y4 y4.1.kind y4.1.query.limit y7.1 y4.1.cols y4.1.rows y4.1.sets y4.1.where_) (tw [.rn [(40160002, 60116000), (40160003, 60116001), (40160004, 60116002), (40160005, 60116003), (40160008, 60116004), (40160010, 60116005), (40160011, 60116006)]] (wr [(300330009, .old 300330009)] (es (es er_nil)) (bs_ (br_cons (c0 := [(vI y4.1.kind), (vB y4.1.query.distinct), (.tre 60116000), (.tre 60116001), (.tre 60116002), (.tre 60116003), (vI y4.1.query.limit), (vS y7.1), (.tre 60116004), (.osl 300330009 9 1 (y4.1.cols.map cStr)), (.tre 60116005), (.tre 60116006)]) (by kernel_rfl) (vrs_cons (vr_same (by kernel_rfl) (by kernel_rfl)) (vrs_cons (vr_same (by kernel_rfl) (by kernel_rfl)) (vrs_cons (vr_same (by kernel_rfl) (by kernel_rfl)) (vrs_cons (vr_same (by kernel_rfl) (by kernel_rfl)) (vrs_cons (vr_same (by kernel_rfl) (by kernel_rfl)) (vrs_cons (vr_same (by kernel_rfl) (by kernel_rfl)) (vrs_cons (vr_same (by kernel_rfl) (by kernel_rfl)) (vrs_cons (vr_same (by kernel_rfl) (by kernel_rfl)) (vrs_cons (vr_same (by kernel_rfl) (by kernel_rfl)) (vrs_cons (vr_old (t := 300330009) (by kernel_rfl) (by kernel_rfl)) (vrs_cons (vr_same (by kernel_rfl) (by kernel_rfl)) (vrs_cons (vr_same (by kernel_rfl) (by kernel_rfl)) (vrs_nil))))))))))))) (bs_ (bs_ (bs_ (bs_ (bs_ (bs_ (bs_ br_nil))))))))))) (OK_sL8Draw_J0 y4 y4.1.kind y4.1.query.limit y7.1 y4.1.cols y4.1.rows y4.1.sets y4.1.where_ _ h)
 refine so ?_
 let a13 : St := a10.p [(27, (vB (decide (y5.1 = 2)))), (28, (vB (decide (y5.1 = 2))))]
 refine st 2 a13 (nx ?_)
 refine cd h (fun h => ?_) fun h => ?_
 refine dops_in ?_
 let a14 : St := a13.p [(32, (.ptr 6 0)), (31, (.ptr 6 0)), (30, (.tre 40160011)), (29, (.ptr 4 11))]
 refine dsts_ok 4 (s' := a14) (by kernel_rfl) ?_
 refine dcallg_step ⟨[(1000000, 6)], [], [], [], [], [], [(10000008, 40560008), (10000009, 40560009)], [], []⟩ [] [] (m := sL7Expr_X y5.2 1) (S' := fun (y : GExpr × GL1Cur) => ⟨(33, (.agv [(vI y.1.kind), (vI y.1.op), (vB y.1.not_), (vI y.1.value.kind), (vI y.1.value.num), (vS y.1.value.text), (vS y.1.qual), (vS y.1.name), (.tre 40560008), (.tre 40560009)])) :: a14.env, [(40560008, [(.trc 10 (y.1.kids.map cGExpr))]), (40560009, [(.trc 6 (y.1.sub.map cGQuery))]), (4, [(vI y4.1.kind), (vB y4.1.query.distinct), (.tre 40160002), (.tre 40160003), (.tre 40160004), (.tre 40160005), (vI y4.1.query.limit), (vS y4.1.table), (.tre 40160008), (.osl 300330009 9 1 (y4.1.cols.map cStr)), (.tre 40160010), (.tre 40160011)]), (40160002, [(.trc 13 (y4.1.query.items.map cGItem))]), (40160003, [(.trc 3 (y4.1.query.from_.map cGSource))]), (40160004, [(.trc 10 (y4.1.query.where_.map cGExpr))]), (40160005, [(.trc 11 (y4.1.query.order.map cGSortKey))]), (40160008, [(.trc 1 (y4.1.rows.map (cSl 10 cGExpr)))]), (40160010, [(.trc 10 (y4.1.sets.map cGExpr))]), (40160011, [(.trc 10 (y4.1.where_.map cGExpr))]), (6, bGL1Cur y.2), (2, [(vI 0), (vB false), (.nil 13), (.nil 3), (.nil 10), (.nil 11), (vI 0), (vS []), (.nil 1), (.nil 1), (.nil 10), (.nil 10)])]⟩) h (OK_sL7Expr_X y5.2 1) (by kernel_rfl) (by kernel_rfl) (by kernel_rfl) (by kernel_rfl) (fun y => by kernel_rfl) (fun y => by kernel_rfl) ?_
 clear h; intro y8 h
 refine dcallg_step ⟨[(1000000, 6), (3001008, 40560008), (3001009, 40560009)], [], [], [], [], [], [(10000008, 40570008), (10000009, 40570009)], [], []⟩ [] [] (m := sL7Bent_X y8.2 y8.1) (S' := fun (y : GExpr × GL1Cur) => ⟨(34, (.agv [(vI y.1.kind), (vI y.1.op), (vB y.1.not_), (vI y.1.value.kind), (vI y.1.value.num), (vS y.1.value.text), (vS y.1.qual), (vS y.1.name), (.tre 40570008), (.tre 40570009)])) :: (33, (.agv [(vI y8.1.kind), (vI y8.1.op), (vB y8.1.not_), (vI y8.1.value.kind), (vI y8.1.value.num), (vS y8.1.value.text), (vS y8.1.qual), (vS y8.1.name), (.tre 40560008), (.tre 40560009)])) :: a14.env, [(40570008, [(.trc 10 (y.1.kids.map cGExpr))]), (40570009, [(.trc 6 (y.1.sub.map cGQuery))]), (40560008, [.trd]), (40560009, [.trd]), (4, [(vI y4.1.kind), (vB y4.1.query.distinct), (.tre 40160002), (.tre 40160003), (.tre 40160004), (.tre 40160005), (vI y4.1.query.limit), (vS y4.1.table), (.tre 40160008), (.osl 300330009 9 1 (y4.1.cols.map cStr)), (.tre 40160010), (.tre 40160011)]), (40160002, [(.trc 13 (y4.1.query.items.map cGItem))]), (40160003, [(.trc 3 (y4.1.query.from_.map cGSource))]), (40160004, [(.trc 10 (y4.1.query.where_.map cGExpr))]), (40160005, [(.trc 11 (y4.1.query.order.map cGSortKey))]), (40160008, [(.trc 1 (y4.1.rows.map (cSl 10 cGExpr)))]), (40160010, [(.trc 10 (y4.1.sets.map cGExpr))]), (40160011, [(.trc 10 (y4.1.where_.map cGExpr))]), (6, bGL1Cur y.2), (2, [(vI 0), (vB false), (.nil 13), (.nil 3), (.nil 10), (.nil 11), (vI 0), (vS []), (.nil 1), (.nil 1), (.nil 10), (.nil 10)])]⟩) h (OK_sL7Bent_X y8.2 y8.1) (by kernel_rfl) (by kernel_rfl) (by kernel_rfl) (by kernel_rfl) (fun y => by kernel_rfl) (fun y => by kernel_rfl) ?_
 clear h; intro y9 h
 refine dbslT_step (l := ([y9.1] : List GExpr)) (f := cGExpr) (g := oGExpr) [40570008, 40570009] (s' := ⟨(35, (.tre 35)) :: (34, (.agv [(vI y9.1.kind), (vI y9.1.op), (vB y9.1.not_), (vI y9.1.value.kind), (vI y9.1.value.num), (vS y9.1.value.text), (vS y9.1.qual), (vS y9.1.name), (.tre 40570008), (.tre 40570009)])) :: (33, (.agv [(vI y8.1.kind), (vI y8.1.op), (vB y8.1.not_), (vI y8.1.value.kind), (vI y8.1.value.num), (vS y8.1.value.text), (vS y8.1.qual), (vS y8.1.name), (.tre 40560008), (.tre 40560009)])) :: a14.env, [(35, [(.trc 10 (([y9.1] : List GExpr).map cGExpr))]), (40570008, [.trd]), (40570009, [.trd]), (40560008, [.trd]), (40560009, [.trd]), (4, [(vI y4.1.kind), (vB y4.1.query.distinct), (.tre 40160002), (.tre 40160003), (.tre 40160004), (.tre 40160005), (vI y4.1.query.limit), (vS y4.1.table), (.tre 40160008), (.osl 300330009 9 1 (y4.1.cols.map cStr)), (.tre 40160010), (.tre 40160011)]), (40160002, [(.trc 13 (y4.1.query.items.map cGItem))]), (40160003, [(.trc 3 (y4.1.query.from_.map cGSource))]), (40160004, [(.trc 10 (y4.1.query.where_.map cGExpr))]), (40160005, [(.trc 11 (y4.1.query.order.map cGSortKey))]), (40160008, [(.trc 1 (y4.1.rows.map (cSl 10 cGExpr)))]), (40160010, [(.trc 10 (y4.1.sets.map cGExpr))]), (40160011, [(.trc 10 (y4.1.where_.map cGExpr))]), (6, bGL1Cur y9.2), (2, [(vI 0), (vB false), (.nil 13), (.nil 3), (.nil 10), (.nil 11), (vI 0), (vS []), (.nil 1), (.nil 1), (.nil 10), (.nil 10)])]⟩) (by kernel_rfl) cGExpr_eq (by kernel_rfl) (by kernel_rfl) ?_
 refine dappTT_step (l := y4.1.where_) (m := ([y9.1] : List GExpr)) (f := cGExpr) [40160011] [35] (S' := fun y => ⟨(36, (.tre 36)) :: (35, (.tre 35)) :: (34, (.agv [(vI y9.1.kind), (vI y9.1.op), (vB y9.1.not_), (vI y9.1.value.kind), (vI y9.1.value.num), (vS y9.1.value.text), (vS y9.1.qual), (vS y9.1.name), (.tre 40570008), (.tre 40570009)])) :: (33, (.agv [(vI y8.1.kind), (vI y8.1.op), (vB y8.1.not_), (vI y8.1.value.kind), (vI y8.1.value.num), (vS y8.1.value.text), (vS y8.1.qual), (vS y8.1.name), (.tre 40560008), (.tre 40560009)])) :: a14.env, [(36, [(.trc 10 (y.map cGExpr))]), (35, [.trd]), (40570008, [.trd]), (40570009, [.trd]), (40560008, [.trd]), (40560009, [.trd]), (4, [(vI y4.1.kind), (vB y4.1.query.distinct), (.tre 40160002), (.tre 40160003), (.tre 40160004), (.tre 40160005), (vI y4.1.query.limit), (vS y4.1.table), (.tre 40160008), (.osl 300330009 9 1 (y4.1.cols.map cStr)), (.tre 40160010), (.tre 40160011)]), (40160002, [(.trc 13 (y4.1.query.items.map cGItem))]), (40160003, [(.trc 3 (y4.1.query.from_.map cGSource))]), (40160004, [(.trc 10 (y4.1.query.where_.map cGExpr))]), (40160005, [(.trc 11 (y4.1.query.order.map cGSortKey))]), (40160008, [(.trc 1 (y4.1.rows.map (cSl 10 cGExpr)))]), (40160010, [(.trc 10 (y4.1.sets.map cGExpr))]), (40160011, [.trd]), (6, bGL1Cur y9.2), (2, [(vI 0), (vB false), (.nil 13), (.nil 3), (.nil 10), (.nil 11), (vI 0), (vS []), (.nil 1), (.nil 1), (.nil 10), (.nil 10)])]⟩) h (by kernel_rfl) (by kernel_rfl) (by kernel_rfl) (by kernel_rfl) (fun y => by kernel_rfl) ?_
 clear h; intro y10 h
 let a15 : St := ⟨(37, (.ptr 4 11)) :: (36, (.tre 36)) :: (35, (.tre 35)) :: (34, (.agv [(vI y9.1.kind), (vI y9.1.op), (vB y9.1.not_), (vI y9.1.value.kind), (vI y9.1.value.num), (vS y9.1.value.text), (vS y9.1.qual), (vS y9.1.name), (.tre 40570008), (.tre 40570009)])) :: (33, (.agv [(vI y8.1.kind), (vI y8.1.op), (vB y8.1.not_), (vI y8.1.value.kind), (vI y8.1.value.num), (vS y8.1.value.text), (vS y8.1.qual), (vS y8.1.name), (.tre 40560008), (.tre 40560009)])) :: a14.env, [(36, [(.trc 10 (y10.map cGExpr))]), (35, [.trd]), (40570008, [.trd]), (40570009, [.trd]), (40560008, [.trd]), (40560009, [.trd]), (4, [(vI y4.1.kind), (vB y4.1.query.distinct), (.tre 40160002), (.tre 40160003), (.tre 40160004), (.tre 40160005), (vI y4.1.query.limit), (vS y4.1.table), (.tre 40160008), (.osl 300330009 9 1 (y4.1.cols.map cStr)), (.tre 40160010), (.tre 36)]), (40160002, [(.trc 13 (y4.1.query.items.map cGItem))]), (40160003, [(.trc 3 (y4.1.query.from_.map cGSource))]), (40160004, [(.trc 10 (y4.1.query.where_.map cGExpr))]), (40160005, [(.trc 11 (y4.1.query.order.map cGSortKey))]), (40160008, [(.trc 1 (y4.1.rows.map (cSl 10 cGExpr)))]), (40160010, [(.trc 10 (y4.1.sets.map cGExpr))]), (40160011, [.trd]), (6, bGL1Cur y9.2), (2, [(vI 0), (vB false), (.nil 13), (.nil 3), (.nil 10), (.nil 11), (vI 0), (vS []), (.nil 1), (.nil 1), (.nil 10), (.nil 10)])]⟩
 refine dsts_ok 2 (s' := a15) (by kernel_rfl) (dnil_in (by kernel_rfl) (by kernel_rfl) (bn ?_))
 exact next_step (s' := stsL8Draw_J0 y4 y4.1.kind y4.1.query.limit y4.1.table y4.1.cols y4.1.rows y4.1.sets y10) (tw [.rn [(40160002, 60116000), (40160003, 60116001), (40160004, 60116002), (40160005, 60116003), (40160008, 60116004), (40160010, 60116005), (36, 60116006)]] (wr [(300330009, .old 300330009)] (es (es er_nil)) (bs_ (br_cons (c0 := [(vI y4.1.kind), (vB y4.1.query.distinct), (.tre 60116000), (.tre 60116001), (.tre 60116002), (.tre 60116003), (vI y4.1.query.limit), (vS y4.1.table), (.tre 60116004), (.osl 300330009 9 1 (y4.1.cols.map cStr)), (.tre 60116005), (.tre 60116006)]) (by kernel_rfl) (vrs_cons (vr_same (by kernel_rfl) (by kernel_rfl)) (vrs_cons (vr_same (by kernel_rfl) (by kernel_rfl)) (vrs_cons (vr_same (by kernel_rfl) (by kernel_rfl)) (vrs_cons (vr_same (by kernel_rfl) (by kernel_rfl)) (vrs_cons (vr_same (by kernel_rfl) (by kernel_rfl)) (vrs_cons (vr_same (by kernel_rfl) (by kernel_rfl)) (vrs_cons (vr_same (by kernel_rfl) (by kernel_rfl)) (vrs_cons (vr_same (by kernel_rfl) (by kernel_rfl)) (vrs_cons (vr_same (by kernel_rfl) (by kernel_rfl)) (vrs_cons (vr_old (t := 300330009) (by kernel_rfl) (by kernel_rfl)) (vrs_cons (vr_same (by kernel_rfl) (by kernel_rfl)) (vrs_cons (vr_same (by kernel_rfl) (by kernel_rfl)) (vrs_nil))))))))))))) (bs_ (bs_ (bs_ (bs_ (bs_ (bs_ (bs_ br_nil))))))))))) (OK_sL8Draw_J0 y4 y4.1.kind y4.1.query.limit y4.1.table y4.1.cols y4.1.rows y4.1.sets y10 _ h)
 refine so ?_
 let a16 : St := a13.p [(38, (vB (decide (y5.1 = 3)))), (39, (vB (decide (y5.1 = 3))))]
 refine st 2 a16 (nx ?_)
 refine cd h (fun h => ?_) fun h => ?_
 refine dops_in ?_
 let a17 : St := a16.p [(42, (.ptr 6 0)), (41, (.osl 300330009 9 1 (y4.1.cols.map cStr))), (40, (.ptr 4 9))]
 refine dsts_ok 3 (s' := a17) (by kernel_rfl) ?_
 refine dcallg_step ⟨[(1000000, 6)], [], [], [], [], [], [], [], []⟩ [] [] (m := sL2Any y5.2) (S' := fun (y : (List UInt8) × GL1Cur) => ⟨(43, (vS y.1)) :: a17.env, [(4, [(vI y4.1.kind), (vB y4.1.query.distinct), (.tre 40160002), (.tre 40160003), (.tre 40160004), (.tre 40160005), (vI y4.1.query.limit), (vS y4.1.table), (.tre 40160008), (.osl 300330009 9 1 (y4.1.cols.map cStr)), (.tre 40160010), (.tre 40160011)]), (40160002, [(.trc 13 (y4.1.query.items.map cGItem))]), (40160003, [(.trc 3 (y4.1.query.from_.map cGSource))]), (40160004, [(.trc 10 (y4.1.query.where_.map cGExpr))]), (40160005, [(.trc 11 (y4.1.query.order.map cGSortKey))]), (40160008, [(.trc 1 (y4.1.rows.map (cSl 10 cGExpr)))]), (40160010, [(.trc 10 (y4.1.sets.map cGExpr))]), (40160011, [(.trc 10 (y4.1.where_.map cGExpr))]), (6, bGL1Cur y.2), (2, [(vI 0), (vB false), (.nil 13), (.nil 3), (.nil 10), (.nil 11), (vI 0), (vS []), (.nil 1), (.nil 1), (.nil 10), (.nil 10)])]⟩) h (OK_sL2Any y5.2) (by kernel_rfl) (by kernel_rfl) (by kernel_rfl) (by kernel_rfl) (fun y => by kernel_rfl) (fun y => by kernel_rfl) ?_
 clear h; intro y11 h
 refine dbsl_step (l := ([y11.1] : List (List UInt8))) (f := cStr) (g := cStr) (by kernel_rfl) (fun _ => rfl) ?_
 refine dapp_step (t := 300330009) (l := y4.1.cols) (m := ([y11.1] : List (List UInt8))) (f := cStr) (S' := fun y => ⟨[(45, (.osl 45 9 1 (y.map cStr))), (44, (.osl 44 9 1 (([y11.1] : List (List UInt8)).map cStr))), (43, (vS y11.1)), (42, (.ptr 6 0)), (41, (.d (.sl 1 (y4.1.cols.map cStr)))), (40, (.ptr 4 9)), (38, (vB (decide (y5.1 = 3)))), (39, (vB (decide (y5.1 = 3)))), (27, (vB (decide (y5.1 = 2)))), (28, (vB (decide (y5.1 = 2)))), (22, (vB (decide (y5.1 = 1)))), (23, (vB (decide (y5.1 = 1)))), (16, (vB (decide (y5.1 = 0)))), (17, (vB (decide (y5.1 = 0)))), (15, (vI y5.1)), (14, (.ptr 6 0)), (4, (.ptr 4 0)), (13, (.agv [(vI y4.1.kind), (vB y4.1.query.distinct), (.tre 40160002), (.tre 40160003), (.tre 40160004), (.tre 40160005), (vI y4.1.query.limit), (vS y4.1.table), (.tre 40160008), (.d (.sl 1 (y4.1.cols.map cStr))), (.tre 40160010), (.tre 40160011)])), (12, (vI (IntKind.wrap .i64 (1 + y3.1)))), (11, (vI y3.1)), (10, (vI y2)), (9, (.d (.sl 1 (p0.map cU8)))), (8, (.ptr 6 0)), (7, (.ptr 6 0)), (3, (.ptr 6 0)), (6, (.ptr 6 0)), (5, (.d (.sl 1 (p0.map cU8)))), (2, (.ptr 2 0)), (0, (.d (.sl 1 (p0.map cU8))))], [(4, [(vI y4.1.kind), (vB y4.1.query.distinct), (.tre 40160002), (.tre 40160003), (.tre 40160004), (.tre 40160005), (vI y4.1.query.limit), (vS y4.1.table), (.tre 40160008), (.d (.sl 1 (y4.1.cols.map cStr))), (.tre 40160010), (.tre 40160011)]), (40160002, [(.trc 13 (y4.1.query.items.map cGItem))]), (40160003, [(.trc 3 (y4.1.query.from_.map cGSource))]), (40160004, [(.trc 10 (y4.1.query.where_.map cGExpr))]), (40160005, [(.trc 11 (y4.1.query.order.map cGSortKey))]), (40160008, [(.trc 1 (y4.1.rows.map (cSl 10 cGExpr)))]), (40160010, [(.trc 10 (y4.1.sets.map cGExpr))]), (40160011, [(.trc 10 (y4.1.where_.map cGExpr))]), (6, bGL1Cur y11.2), (2, [(vI 0), (vB false), (.nil 13), (.nil 3), (.nil 10), (.nil 11), (vI 0), (vS []), (.nil 1), (.nil 1), (.nil 10), (.nil 10)])]⟩) [13, 41] [4] h (by kernel_rfl) (by kernel_rfl) (by kernel_rfl) (fun y => by kernel_rfl) ?_
 clear h; intro y12 h
 let a18 : St := ⟨[(46, (.ptr 4 9)), (45, (.osl 45 9 1 (y12.map cStr))), (44, (.osl 44 9 1 (([y11.1] : List (List UInt8)).map cStr))), (43, (vS y11.1)), (42, (.ptr 6 0)), (41, (.d (.sl 1 (y4.1.cols.map cStr)))), (40, (.ptr 4 9)), (38, (vB (decide (y5.1 = 3)))), (39, (vB (decide (y5.1 = 3)))), (27, (vB (decide (y5.1 = 2)))), (28, (vB (decide (y5.1 = 2)))), (22, (vB (decide (y5.1 = 1)))), (23, (vB (decide (y5.1 = 1)))), (16, (vB (decide (y5.1 = 0)))), (17, (vB (decide (y5.1 = 0)))), (15, (vI y5.1)), (14, (.ptr 6 0)), (4, (.ptr 4 0)), (13, (.agv [(vI y4.1.kind), (vB y4.1.query.distinct), (.tre 40160002), (.tre 40160003), (.tre 40160004), (.tre 40160005), (vI y4.1.query.limit), (vS y4.1.table), (.tre 40160008), (.d (.sl 1 (y4.1.cols.map cStr))), (.tre 40160010), (.tre 40160011)])), (12, (vI (IntKind.wrap .i64 (1 + y3.1)))), (11, (vI y3.1)), (10, (vI y2)), (9, (.d (.sl 1 (p0.map cU8)))), (8, (.ptr 6 0)), (7, (.ptr 6 0)), (3, (.ptr 6 0)), (6, (.ptr 6 0)), (5, (.d (.sl 1 (p0.map cU8)))), (2, (.ptr 2 0)), (0, (.d (.sl 1 (p0.map cU8))))], [(4, [(vI y4.1.kind), (vB y4.1.query.distinct), (.tre 40160002), (.tre 40160003), (.tre 40160004), (.tre 40160005), (vI y4.1.query.limit), (vS y4.1.table), (.tre 40160008), (.osl 45 9 1 (y12.map cStr)), (.tre 40160010), (.tre 40160011)]), (40160002, [(.trc 13 (y4.1.query.items.map cGItem))]), (40160003, [(.trc 3 (y4.1.query.from_.map cGSource))]), (40160004, [(.trc 10 (y4.1.query.where_.map cGExpr))]), (40160005, [(.trc 11 (y4.1.query.order.map cGSortKey))]), (40160008, [(.trc 1 (y4.1.rows.map (cSl 10 cGExpr)))]), (40160010, [(.trc 10 (y4.1.sets.map cGExpr))]), (40160011, [(.trc 10 (y4.1.where_.map cGExpr))]), (6, bGL1Cur y11.2), (2, [(vI 0), (vB false), (.nil 13), (.nil 3), (.nil 10), (.nil 11), (vI 0), (vS []), (.nil 1), (.nil 1), (.nil 10), (.nil 10)])]⟩
 refine dsts_ok 2 (s' := a18) (by kernel_rfl) (dnil_in (by kernel_rfl) (by kernel_rfl) (bn ?_))
 exact next_step (s' := stsL8Draw_J0 y4 y4.1.kind y4.1.query.limit y4.1.table y12 y4.1.rows y4.1.sets y4.1.where_) (tw [.rn [(40160002, 60116000), (40160003, 60116001), (40160004, 60116002), (40160005, 60116003), (40160008, 60116004), (40160010, 60116005), (40160011, 60116006)]] (wr [(300330009, .old 45)] (es (es er_nil)) (bs_ (br_cons (c0 := [(vI y4.1.kind), (vB y4.1.query.distinct), (.tre 60116000), (.tre 60116001), (.tre 60116002), (.tre 60116003), (vI y4.1.query.limit), (vS y4.1.table), (.tre 60116004), (.osl 45 9 1 (y12.map cStr)), (.tre 60116005), (.tre 60116006)]) (by kernel_rfl) (vrs_cons (vr_same (by kernel_rfl) (by kernel_rfl)) (vrs_cons (vr_same (by kernel_rfl) (by kernel_rfl)) (vrs_cons (vr_same (by kernel_rfl) (by kernel_rfl)) (vrs_cons (vr_same (by kernel_rfl) (by kernel_rfl)) (vrs_cons (vr_same (by kernel_rfl) (by kernel_rfl)) (vrs_cons (vr_same (by kernel_rfl) (by kernel_rfl)) (vrs_cons (vr_same (by kernel_rfl) (by kernel_rfl)) (vrs_cons (vr_same (by kernel_rfl) (by kernel_rfl)) (vrs_cons (vr_same (by kernel_rfl) (by kernel_rfl)) (vrs_cons (vr_old (t := 45) (by kernel_rfl) (by kernel_rfl)) (vrs_cons (vr_same (by kernel_rfl) (by kernel_rfl)) (vrs_cons (vr_same (by kernel_rfl) (by kernel_rfl)) (vrs_nil))))))))))))) (bs_ (bs_ (bs_ (bs_ (bs_ (bs_ (bs_ br_nil))))))))))) (OK_sL8Draw_J0 y4 y4.1.kind y4.1.query.limit y4.1.table y12 y4.1.rows y4.1.sets y4.1.where_ _ h)
 refine so ?_
 let a19 : St := a16.p [(47, (vB (decide (y5.1 = 4)))), (48, (vB (decide (y5.1 = 4))))]
 refine st 2 a19 (nx ?_)
 refine cd h (fun h => ?_) fun h => ?_
 refine oi ?_
 let a20 : St := a19.p [(50, (.tre 40160008)), (49, (.ptr 4 8))]
 refine st 2 a20 ?_
 refine bslT_step (l := ([] : List GExpr)) (f := cGExpr) (g := oGExpr) [] (s' := ⟨(51, (.tre 51)) :: a20.env, [(51, [(.trc 10 (([] : List GExpr).map cGExpr))]), (4, [(vI y4.1.kind), (vB y4.1.query.distinct), (.tre 40160002), (.tre 40160003), (.tre 40160004), (.tre 40160005), (vI y4.1.query.limit), (vS y4.1.table), (.tre 40160008), (.osl 300330009 9 1 (y4.1.cols.map cStr)), (.tre 40160010), (.tre 40160011)]), (40160002, [(.trc 13 (y4.1.query.items.map cGItem))]), (40160003, [(.trc 3 (y4.1.query.from_.map cGSource))]), (40160004, [(.trc 10 (y4.1.query.where_.map cGExpr))]), (40160005, [(.trc 11 (y4.1.query.order.map cGSortKey))]), (40160008, [(.trc 1 (y4.1.rows.map (cSl 10 cGExpr)))]), (40160010, [(.trc 10 (y4.1.sets.map cGExpr))]), (40160011, [(.trc 10 (y4.1.where_.map cGExpr))]), (6, bGL1Cur y5.2), (2, [(vI 0), (vB false), (.nil 13), (.nil 3), (.nil 10), (.nil 11), (vI 0), (vS []), (.nil 1), (.nil 1), (.nil 10), (.nil 10)])]⟩) (by kernel_rfl) cGExpr_eq (by kernel_rfl) (by kernel_rfl) ?_
 refine bslT_step (l := ([([] : List GExpr)] : List (List GExpr))) (f := (cSl 10 cGExpr)) (g := (cSl 10 cGExpr)) [51] (s' := ⟨(52, (.tre 52)) :: (51, (.tre 51)) :: a20.env, [(52, [(.trc 1 (([([] : List GExpr)] : List (List GExpr)).map (cSl 10 cGExpr)))]), (51, [.trd]), (4, [(vI y4.1.kind), (vB y4.1.query.distinct), (.tre 40160002), (.tre 40160003), (.tre 40160004), (.tre 40160005), (vI y4.1.query.limit), (vS y4.1.table), (.tre 40160008), (.osl 300330009 9 1 (y4.1.cols.map cStr)), (.tre 40160010), (.tre 40160011)]), (40160002, [(.trc 13 (y4.1.query.items.map cGItem))]), (40160003, [(.trc 3 (y4.1.query.from_.map cGSource))]), (40160004, [(.trc 10 (y4.1.query.where_.map cGExpr))]), (40160005, [(.trc 11 (y4.1.query.order.map cGSortKey))]), (40160008, [(.trc 1 (y4.1.rows.map (cSl 10 cGExpr)))]), (40160010, [(.trc 10 (y4.1.sets.map cGExpr))]), (40160011, [(.trc 10 (y4.1.where_.map cGExpr))]), (6, bGL1Cur y5.2), (2, [(vI 0), (vB false), (.nil 13), (.nil 3), (.nil 10), (.nil 11), (vI 0), (vS []), (.nil 1), (.nil 1), (.nil 10), (.nil 10)])]⟩) (by kernel_rfl) (fun _ => rfl) (by kernel_rfl) (by kernel_rfl) ?_
 refine appTT_step (l := y4.1.rows) (m := ([([] : List GExpr)] : List (List GExpr))) (f := (cSl 10 cGExpr)) [40160008] [52] (S' := fun y => ⟨(53, (.tre 53)) :: (52, (.tre 52)) :: (51, (.tre 51)) :: a20.env, [(53, [(.trc 1 (y.map (cSl 10 cGExpr)))]), (52, [.trd]), (51, [.trd]), (4, [(vI y4.1.kind), (vB y4.1.query.distinct), (.tre 40160002), (.tre 40160003), (.tre 40160004), (.tre 40160005), (vI y4.1.query.limit), (vS y4.1.table), (.tre 40160008), (.osl 300330009 9 1 (y4.1.cols.map cStr)), (.tre 40160010), (.tre 40160011)]), (40160002, [(.trc 13 (y4.1.query.items.map cGItem))]), (40160003, [(.trc 3 (y4.1.query.from_.map cGSource))]), (40160004, [(.trc 10 (y4.1.query.where_.map cGExpr))]), (40160005, [(.trc 11 (y4.1.query.order.map cGSortKey))]), (40160008, [.trd]), (40160010, [(.trc 10 (y4.1.sets.map cGExpr))]), (40160011, [(.trc 10 (y4.1.where_.map cGExpr))]), (6, bGL1Cur y5.2), (2, [(vI 0), (vB false), (.nil 13), (.nil 3), (.nil 10), (.nil 11), (vI 0), (vS []), (.nil 1), (.nil 1), (.nil 10), (.nil 10)])]⟩) h (by kernel_rfl) (by kernel_rfl) (by kernel_rfl) (by kernel_rfl) (fun y => by kernel_rfl) ?_
 clear h; intro y13 h
 let a21 : St := ⟨(54, (.ptr 4 8)) :: (53, (.tre 53)) :: (52, (.tre 52)) :: (51, (.tre 51)) :: a20.env, [(53, [(.trc 1 (y13.map (cSl 10 cGExpr)))]), (52, [.trd]), (51, [.trd]), (4, [(vI y4.1.kind), (vB y4.1.query.distinct), (.tre 40160002), (.tre 40160003), (.tre 40160004), (.tre 40160005), (vI y4.1.query.limit), (vS y4.1.table), (.tre 53), (.osl 300330009 9 1 (y4.1.cols.map cStr)), (.tre 40160010), (.tre 40160011)]), (40160002, [(.trc 13 (y4.1.query.items.map cGItem))]), (40160003, [(.trc 3 (y4.1.query.from_.map cGSource))]), (40160004, [(.trc 10 (y4.1.query.where_.map cGExpr))]), (40160005, [(.trc 11 (y4.1.query.order.map cGSortKey))]), (40160008, [.trd]), (40160010, [(.trc 10 (y4.1.sets.map cGExpr))]), (40160011, [(.trc 10 (y4.1.where_.map cGExpr))]), (6, bGL1Cur y5.2), (2, [(vI 0), (vB false), (.nil 13), (.nil 3), (.nil 10), (.nil 11), (vI 0), (vS []), (.nil 1), (.nil 1), (.nil 10), (.nil 10)])]⟩
 refine st 2 a21 (ni (bn ?_))
 exact next_step (s' := stsL8Draw_J0 y4 y4.1.kind y4.1.query.limit y4.1.table y4.1.cols y13 y4.1.sets y4.1.where_) (tw [.rn [(40160002, 60116000), (40160003, 60116001), (40160004, 60116002), (40160005, 60116003), (53, 60116004), (40160010, 60116005), (40160011, 60116006)]] (wr [(300330009, .old 300330009)] (es (es er_nil)) (bs_ (br_cons (c0 := [(vI y4.1.kind), (vB y4.1.query.distinct), (.tre 60116000), (.tre 60116001), (.tre 60116002), (.tre 60116003), (vI y4.1.query.limit), (vS y4.1.table), (.tre 60116004), (.osl 300330009 9 1 (y4.1.cols.map cStr)), (.tre 60116005), (.tre 60116006)]) (by kernel_rfl) (vrs_cons (vr_same (by kernel_rfl) (by kernel_rfl)) (vrs_cons (vr_same (by kernel_rfl) (by kernel_rfl)) (vrs_cons (vr_same (by kernel_rfl) (by kernel_rfl)) (vrs_cons (vr_same (by kernel_rfl) (by kernel_rfl)) (vrs_cons (vr_same (by kernel_rfl) (by kernel_rfl)) (vrs_cons (vr_same (by kernel_rfl) (by kernel_rfl)) (vrs_cons (vr_same (by kernel_rfl) (by kernel_rfl)) (vrs_cons (vr_same (by kernel_rfl) (by kernel_rfl)) (vrs_cons (vr_same (by kernel_rfl) (by kernel_rfl)) (vrs_cons (vr_old (t := 300330009) (by kernel_rfl) (by kernel_rfl)) (vrs_cons (vr_same (by kernel_rfl) (by kernel_rfl)) (vrs_cons (vr_same (by kernel_rfl) (by kernel_rfl)) (vrs_nil))))))))))))) (bs_ (bs_ (bs_ (bs_ (bs_ (bs_ (bs_ br_nil))))))))))) (OK_sL8Draw_J0 y4 y4.1.kind y4.1.query.limit y4.1.table y4.1.cols y13 y4.1.sets y4.1.where_ _ h)
 refine so ?_
 let a22 : St := a19.p [(55, (vB (decide (y5.1 = 5)))), (56, (vB (decide (y5.1 = 5))))]
 refine st 2 a22 (nx ?_)
 refine cd h (fun h => ?_) fun h => ?_
 refine oi ?_
 let a23 : St := a22.p [(57, (.ptr 6 0))]
 refine st 1 a23 ?_
 refine callg_step ⟨[(1000000, 6)], [], [], [], [], [], [], [], []⟩ (m := sL1Below y5.2 4) (S' := fun (y : Int × GL1Cur) => ⟨(58, (vI y.1)) :: a23.env, [(4, [(vI y4.1.kind), (vB y4.1.query.distinct), (.tre 40160002), (.tre 40160003), (.tre 40160004), (.tre 40160005), (vI y4.1.query.limit), (vS y4.1.table), (.tre 40160008), (.osl 300330009 9 1 (y4.1.cols.map cStr)), (.tre 40160010), (.tre 40160011)]), (40160002, [(.trc 13 (y4.1.query.items.map cGItem))]), (40160003, [(.trc 3 (y4.1.query.from_.map cGSource))]), (40160004, [(.trc 10 (y4.1.query.where_.map cGExpr))]), (40160005, [(.trc 11 (y4.1.query.order.map cGSortKey))]), (40160008, [(.trc 1 (y4.1.rows.map (cSl 10 cGExpr)))]), (40160010, [(.trc 10 (y4.1.sets.map cGExpr))]), (40160011, [(.trc 10 (y4.1.where_.map cGExpr))]), (6, bGL1Cur y.2), (2, [(vI 0), (vB false), (.nil 13), (.nil 3), (.nil 10), (.nil 11), (vI 0), (vS []), (.nil 1), (.nil 1), (.nil 10), (.nil 10)])]⟩) h (OK_sL1Below y5.2 4) (by kernel_rfl) (by kernel_rfl) (by kernel_rfl) (by kernel_rfl) (fun y => by kernel_rfl) (fun y => by kernel_rfl) ?_
 clear h; intro y14 h
 let a24 : St := ⟨(61, (.ptr 4 6)) :: (60, (.ptr 4 1)) :: (59, (vI (IntKind.wrap .i64 (y14.1 - 2)))) :: (58, (vI y14.1)) :: a23.env, [(4, [(vI y4.1.kind), (vB y4.1.query.distinct), (.tre 40160002), (.tre 40160003), (.tre 40160004), (.tre 40160005), (vI (IntKind.wrap .i64 (y14.1 - 2))), (vS y4.1.table), (.tre 40160008), (.osl 300330009 9 1 (y4.1.cols.map cStr)), (.tre 40160010), (.tre 40160011)]), (40160002, [(.trc 13 (y4.1.query.items.map cGItem))]), (40160003, [(.trc 3 (y4.1.query.from_.map cGSource))]), (40160004, [(.trc 10 (y4.1.query.where_.map cGExpr))]), (40160005, [(.trc 11 (y4.1.query.order.map cGSortKey))]), (40160008, [(.trc 1 (y4.1.rows.map (cSl 10 cGExpr)))]), (40160010, [(.trc 10 (y4.1.sets.map cGExpr))]), (40160011, [(.trc 10 (y4.1.where_.map cGExpr))]), (6, bGL1Cur y14.2), (2, [(vI 0), (vB false), (.nil 13), (.nil 3), (.nil 10), (.nil 11), (vI 0), (vS []), (.nil 1), (.nil 1), (.nil 10), (.nil 10)])]⟩
 refine st 4 a24 (ni (bn ?_))
 exact next_step (s' := stsL8Draw_J0 y4 y4.1.kind (IntKind.wrap .i64 (y14.1 - 2)) y4.1.table y4.1.cols y4.1.rows y4.1.sets y4.1.where_) (tw [.rn [(40160002, 60116000), (40160003, 60116001), (40160004, 60116002), (40160005, 60116003), (40160008, 60116004), (40160010, 60116005), (40160011, 60116006)]] (wr [(300330009, .old 300330009)] (es (es er_nil)) (bs_ (br_cons (c0 := [(vI y4.1.kind), (vB y4.1.query.distinct), (.tre 60116000), (.tre 60116001), (.tre 60116002), (.tre 60116003), (vI (IntKind.wrap .i64 (y14.1 - 2))), (vS y4.1.table), (.tre 60116004), (.osl 300330009 9 1 (y4.1.cols.map cStr)), (.tre 60116005), (.tre 60116006)]) (by kernel_rfl) (vrs_cons (vr_same (by kernel_rfl) (by kernel_rfl)) (vrs_cons (vr_same (by kernel_rfl) (by kernel_rfl)) (vrs_cons (vr_same (by kernel_rfl) (by kernel_rfl)) (vrs_cons (vr_same (by kernel_rfl) (by kernel_rfl)) (vrs_cons (vr_same (by kernel_rfl) (by kernel_rfl)) (vrs_cons (vr_same (by kernel_rfl) (by kernel_rfl)) (vrs_cons (vr_same (by kernel_rfl) (by kernel_rfl)) (vrs_cons (vr_same (by kernel_rfl) (by kernel_rfl)) (vrs_cons (vr_same (by kernel_rfl) (by kernel_rfl)) (vrs_cons (vr_old (t := 300330009) (by kernel_rfl) (by kernel_rfl)) (vrs_cons (vr_same (by kernel_rfl) (by kernel_rfl)) (vrs_cons (vr_same (by kernel_rfl) (by kernel_rfl)) (vrs_nil))))))))))))) (bs_ (bs_ (bs_ (bs_ (bs_ (bs_ (bs_ br_nil))))))))))) (OK_sL8Draw_J0 y4 y4.1.kind (IntKind.wrap .i64 (y14.1 - 2)) y4.1.table y4.1.cols y4.1.rows y4.1.sets y4.1.where_ _ h)
 refine so ?_
 let a25 : St := a22.p [(62, (vB (decide (y5.1 = 6)))), (63, (vB (decide (y5.1 = 6))))]
 refine st 2 a25 (nx ?_)
 refine cd h (fun h => ?_) fun h => ?_
 refine dops_in ?_
 let a26 : St := a25.p [(66, (.ptr 6 0)), (65, (.tre 40160010)), (64, (.ptr 4 10))]
 refine dsts_ok 3 (s' := a26) (by kernel_rfl) ?_
 refine dcallg_step ⟨[(1000000, 6)], [], [], [], [], [], [(10000008, 41100008), (10000009, 41100009)], [], []⟩ [] [] (m := sL7Deep_X y5.2) (S' := fun (y : GExpr × GL1Cur) => ⟨(67, (.agv [(vI y.1.kind), (vI y.1.op), (vB y.1.not_), (vI y.1.value.kind), (vI y.1.value.num), (vS y.1.value.text), (vS y.1.qual), (vS y.1.name), (.tre 41100008), (.tre 41100009)])) :: a26.env, [(41100008, [(.trc 10 (y.1.kids.map cGExpr))]), (41100009, [(.trc 6 (y.1.sub.map cGQuery))]), (4, [(vI y4.1.kind), (vB y4.1.query.distinct), (.tre 40160002), (.tre 40160003), (.tre 40160004), (.tre 40160005), (vI y4.1.query.limit), (vS y4.1.table), (.tre 40160008), (.osl 300330009 9 1 (y4.1.cols.map cStr)), (.tre 40160010), (.tre 40160011)]), (40160002, [(.trc 13 (y4.1.query.items.map cGItem))]), (40160003, [(.trc 3 (y4.1.query.from_.map cGSource))]), (40160004, [(.trc 10 (y4.1.query.where_.map cGExpr))]), (40160005, [(.trc 11 (y4.1.query.order.map cGSortKey))]), (40160008, [(.trc 1 (y4.1.rows.map (cSl 10 cGExpr)))]), (40160010, [(.trc 10 (y4.1.sets.map cGExpr))]), (40160011, [(.trc 10 (y4.1.where_.map cGExpr))]), (6, bGL1Cur y.2), (2, [(vI 0), (vB false), (.nil 13), (.nil 3), (.nil 10), (.nil 11), (vI 0), (vS []), (.nil 1), (.nil 1), (.nil 10), (.nil 10)])]⟩) h (OK_sL7Deep_X y5.2) (by kernel_rfl) (by kernel_rfl) (by kernel_rfl) (by kernel_rfl) (fun y => by kernel_rfl) (fun y => by kernel_rfl) ?_
 clear h; intro y15 h
 refine dbslT_step (l := ([y15.1] : List GExpr)) (f := cGExpr) (g := oGExpr) [41100008, 41100009] (s' := ⟨(68, (.tre 68)) :: (67, (.agv [(vI y15.1.kind), (vI y15.1.op), (vB y15.1.not_), (vI y15.1.value.kind), (vI y15.1.value.num), (vS y15.1.value.text), (vS y15.1.qual), (vS y15.1.name), (.tre 41100008), (.tre 41100009)])) :: a26.env, [(68, [(.trc 10 (([y15.1] : List GExpr).map cGExpr))]), (41100008, [.trd]), (41100009, [.trd]), (4, [(vI y4.1.kind), (vB y4.1.query.distinct), (.tre 40160002), (.tre 40160003), (.tre 40160004), (.tre 40160005), (vI y4.1.query.limit), (vS y4.1.table), (.tre 40160008), (.osl 300330009 9 1 (y4.1.cols.map cStr)), (.tre 40160010), (.tre 40160011)]), (40160002, [(.trc 13 (y4.1.query.items.map cGItem))]), (40160003, [(.trc 3 (y4.1.query.from_.map cGSource))]), (40160004, [(.trc 10 (y4.1.query.where_.map cGExpr))]), (40160005, [(.trc 11 (y4.1.query.order.map cGSortKey))]), (40160008, [(.trc 1 (y4.1.rows.map (cSl 10 cGExpr)))]), (40160010, [(.trc 10 (y4.1.sets.map cGExpr))]), (40160011, [(.trc 10 (y4.1.where_.map cGExpr))]), (6, bGL1Cur y15.2), (2, [(vI 0), (vB false), (.nil 13), (.nil 3), (.nil 10), (.nil 11), (vI 0), (vS []), (.nil 1), (.nil 1), (.nil 10), (.nil 10)])]⟩) (by kernel_rfl) cGExpr_eq (by kernel_rfl) (by kernel_rfl) ?_
 refine dappTT_step (l := y4.1.sets) (m := ([y15.1] : List GExpr)) (f := cGExpr) [40160010] [68] (S' := fun y => ⟨(69, (.tre 69)) :: (68, (.tre 68)) :: (67, (.agv [(vI y15.1.kind), (vI y15.1.op), (vB y15.1.not_), (vI y15.1.value.kind), (vI y15.1.value.num), (vS y15.1.value.text), (vS y15.1.qual), (vS y15.1.name), (.tre 41100008), (.tre 41100009)])) :: a26.env, [(69, [(.trc 10 (y.map cGExpr))]), (68, [.trd]), (41100008, [.trd]), (41100009, [.trd]), (4, [(vI y4.1.kind), (vB y4.1.query.distinct), (.tre 40160002), (.tre 40160003), (.tre 40160004), (.tre 40160005), (vI y4.1.query.limit), (vS y4.1.table), (.tre 40160008), (.osl 300330009 9 1 (y4.1.cols.map cStr)), (.tre 40160010), (.tre 40160011)]), (40160002, [(.trc 13 (y4.1.query.items.map cGItem))]), (40160003, [(.trc 3 (y4.1.query.from_.map cGSource))]), (40160004, [(.trc 10 (y4.1.query.where_.map cGExpr))]), (40160005, [(.trc 11 (y4.1.query.order.map cGSortKey))]), (40160008, [(.trc 1 (y4.1.rows.map (cSl 10 cGExpr)))]), (40160010, [.trd]), (40160011, [(.trc 10 (y4.1.where_.map cGExpr))]), (6, bGL1Cur y15.2), (2, [(vI 0), (vB false), (.nil 13), (.nil 3), (.nil 10), (.nil 11), (vI 0), (vS []), (.nil 1), (.nil 1), (.nil 10), (.nil 10)])]⟩) h (by kernel_rfl) (by kernel_rfl) (by kernel_rfl) (by kernel_rfl) (fun y => by kernel_rfl) ?_
 clear h; intro y16 h
 let a27 : St := ⟨(70, (.ptr 4 10)) :: (69, (.tre 69)) :: (68, (.tre 68)) :: (67, (.agv [(vI y15.1.kind), (vI y15.1.op), (vB y15.1.not_), (vI y15.1.value.kind), (vI y15.1.value.num), (vS y15.1.value.text), (vS y15.1.qual), (vS y15.1.name), (.tre 41100008), (.tre 41100009)])) :: a26.env, [(69, [(.trc 10 (y16.map cGExpr))]), (68, [.trd]), (41100008, [.trd]), (41100009, [.trd]), (4, [(vI y4.1.kind), (vB y4.1.query.distinct), (.tre 40160002), (.tre 40160003), (.tre 40160004), (.tre 40160005), (vI y4.1.query.limit), (vS y4.1.table), (.tre 40160008), (.osl 300330009 9 1 (y4.1.cols.map cStr)), (.tre 69), (.tre 40160011)]), (40160002, [(.trc 13 (y4.1.query.items.map cGItem))]), (40160003, [(.trc 3 (y4.1.query.from_.map cGSource))]), (40160004, [(.trc 10 (y4.1.query.where_.map cGExpr))]), (40160005, [(.trc 11 (y4.1.query.order.map cGSortKey))]), (40160008, [(.trc 1 (y4.1.rows.map (cSl 10 cGExpr)))]), (40160010, [.trd]), (40160011, [(.trc 10 (y4.1.where_.map cGExpr))]), (6, bGL1Cur y15.2), (2, [(vI 0), (vB false), (.nil 13), (.nil 3), (.nil 10), (.nil 11), (vI 0), (vS []), (.nil 1), (.nil 1), (.nil 10), (.nil 10)])]⟩
 refine dsts_ok 2 (s' := a27) (by kernel_rfl) (dnil_in (by kernel_rfl) (by kernel_rfl) (bn ?_))
 exact next_step (s' := stsL8Draw_J0 y4 y4.1.kind y4.1.query.limit y4.1.table y4.1.cols y4.1.rows y16 y4.1.where_) (tw [.rn [(40160002, 60116000), (40160003, 60116001), (40160004, 60116002), (40160005, 60116003), (40160008, 60116004), (69, 60116005), (40160011, 60116006)]] (wr [(300330009, .old 300330009)] (es (es er_nil)) (bs_ (br_cons (c0 := [(vI y4.1.kind), (vB y4.1.query.distinct), (.tre 60116000), (.tre 60116001), (.tre 60116002), (.tre 60116003), (vI y4.1.query.limit), (vS y4.1.table), (.tre 60116004), (.osl 300330009 9 1 (y4.1.cols.map cStr)), (.tre 60116005), (.tre 60116006)]) (by kernel_rfl) (vrs_cons (vr_same (by kernel_rfl) (by kernel_rfl)) (vrs_cons (vr_same (by kernel_rfl) (by kernel_rfl)) (vrs_cons (vr_same (by kernel_rfl) (by kernel_rfl)) (vrs_cons (vr_same (by kernel_rfl) (by kernel_rfl)) (vrs_cons (vr_same (by kernel_rfl) (by kernel_rfl)) (vrs_cons (vr_same (by kernel_rfl) (by kernel_rfl)) (vrs_cons (vr_same (by kernel_rfl) (by kernel_rfl)) (vrs_cons (vr_same (by kernel_rfl) (by kernel_rfl)) (vrs_cons (vr_same (by kernel_rfl) (by kernel_rfl)) (vrs_cons (vr_old (t := 300330009) (by kernel_rfl) (by kernel_rfl)) (vrs_cons (vr_same (by kernel_rfl) (by kernel_rfl)) (vrs_cons (vr_same (by kernel_rfl) (by kernel_rfl)) (vrs_nil))))))))))))) (bs_ (bs_ (bs_ (bs_ (bs_ (bs_ (bs_ br_nil))))))))))) (OK_sL8Draw_J0 y4 y4.1.kind y4.1.query.limit y4.1.table y4.1.cols y4.1.rows y16 y4.1.where_ _ h)
 refine ki (bn ?_)
 exact next_step (s' := stsL8Draw_J0 y4 y4.1.kind y4.1.query.limit y4.1.table y4.1.cols y4.1.rows y4.1.sets y4.1.where_) (tw [.rn [(40160002, 60116000), (40160003, 60116001), (40160004, 60116002), (40160005, 60116003), (40160008, 60116004), (40160010, 60116005), (40160011, 60116006)]] (wr [(300330009, .old 300330009)] (es (es er_nil)) (bs_ (br_cons (c0 := [(vI y4.1.kind), (vB y4.1.query.distinct), (.tre 60116000), (.tre 60116001), (.tre 60116002), (.tre 60116003), (vI y4.1.query.limit), (vS y4.1.table), (.tre 60116004), (.osl 300330009 9 1 (y4.1.cols.map cStr)), (.tre 60116005), (.tre 60116006)]) (by kernel_rfl) (vrs_cons (vr_same (by kernel_rfl) (by kernel_rfl)) (vrs_cons (vr_same (by kernel_rfl) (by kernel_rfl)) (vrs_cons (vr_same (by kernel_rfl) (by kernel_rfl)) (vrs_cons (vr_same (by kernel_rfl) (by kernel_rfl)) (vrs_cons (vr_same (by kernel_rfl) (by kernel_rfl)) (vrs_cons (vr_same (by kernel_rfl) (by kernel_rfl)) (vrs_cons (vr_same (by kernel_rfl) (by kernel_rfl)) (vrs_cons (vr_same (by kernel_rfl) (by kernel_rfl)) (vrs_cons (vr_same (by kernel_rfl) (by kernel_rfl)) (vrs_cons (vr_old (t := 300330009) (by kernel_rfl) (by kernel_rfl)) (vrs_cons (vr_same (by kernel_rfl) (by kernel_rfl)) (vrs_cons (vr_same (by kernel_rfl) (by kernel_rfl)) (vrs_nil))))))))))))) (bs_ (bs_ (bs_ (bs_ (bs_ (bs_ (bs_ br_nil))))))))))) (OK_sL8Draw_J0 y4 y4.1.kind y4.1.query.limit y4.1.table y4.1.cols y4.1.rows y4.1.sets y4.1.where_ _ h)
theorem OK_sDrawStmtDepth (p0 : (List Int)) : FOk Try.prog 16 [(.d (.sl 1 (p0.map cU8)))] (fun y => (vGStmt y)) (sDrawStmtDepth p0) := by
 intro r h
 rw [sDrawStmtDepth] at h
 refine aof trsDrawStmtDepth ?_
 show avc Try.prog acsDrawStmtDepth (qsDrawStmtDepth _) ⟨[(0, (.d (.sl 1 (p0.map cU8))))], []⟩
 delta acsDrawStmtDepth
 refine so ?_
 let a0 : St := ⟨[(2, (.ptr 2 0)), (0, (.d (.sl 1 (p0.map cU8))))], [(2, [(vI 0), (vB false), (.nil 13), (.nil 3), (.nil 10), (.nil 11), (vI 0), (vS []), (.nil 1), (.nil 1), (.nil 10), (.nil 10)])]⟩
 refine st 1 a0 (nx (so ?_))
 let a1 : St := a0.p [(3, (.d (.sl 1 (p0.map cU8))))]
 refine st 1 a1 (cs h (OK_sL8Draw p0) fun y1 h => ?_)
 let a2 : St := ⟨(4, (vGStmt y1)) :: a1.env, [(2, bGStmt y1)]⟩
 refine st 1 a2 (nx (ri ?_))
 injection h with h; subst h
 exact r1 (v := (vGStmt y1))
theorem OK_wBig (p0 : (List Int)) : FOk Try.prog 9 [(.d (.sl 1 (p0.map cU8)))] (fun y => (vB y)) (wBig p0) := by
 intro r h
 rw [wBig] at h
 refine aof trwBig ?_
 show avc Try.prog acwBig (qwBig _) ⟨[(0, (.d (.sl 1 (p0.map cU8))))], []⟩
 delta acwBig
 refine so ?_
 let a0 : St := ⟨[(2, (vB false)), (0, (.d (.sl 1 (p0.map cU8))))], []⟩
 refine st 1 a0 (nx (so ?_))
 let a1 : St := a0.p [(3, (.d (.sl 1 (p0.map cU8))))]
 refine st 1 a1 (ps (vI (ln p0)) (vln (sz := 1) (l := p0) (f := cU8)) ?_)
 let a2 : St := a1.p [(2, (vB (decide (1048576 < (ln p0))))), (5, (vB (decide (1048576 < (ln p0))))), (4, (vI (ln p0)))]
 refine st 2 a2 (nx (ri ?_))
 injection h with h; subst h
 exact r1 (v := (vB (decide (1048576 < (ln p0)))))
theorem OKs_iDeepestOf_L0 : (∀ (p0 : (List GExpr)) (x3 : Int) (x8 : Int) (r : Int), iDeepestOf_L0 p0 x3 x8 = some r → avc Try.prog aciDeepestOf_L0 (qiDeepestOf_1 r) (stiDeepestOf_L0 p0 x3 x8)) ∧ (∀ (p0 : GExpr) (r : Int), iDepthOf p0 = some r → ACalls Try.prog 12 [(vGExpr p0)] [] fun x _ => x = (fun y => (vI y)) r) ∧ (∀ (p0 : GExpr) (x3 : Int) (x11 : Int) (r : Int), iDepthOf_L0 p0 x3 x11 = some r → avc Try.prog aciDepthOf_L0 (qiDepthOf_1 r) (stiDepthOf_L0 p0 x3 x11)) ∧ (∀ (p0 : GExpr) (x3_3 : Int) (x23 : Int) (r : Int), iDepthOf_L1 p0 x3_3 x23 = some r → avc Try.prog aciDepthOf_L1 (qiDepthOf_3 r) (stiDepthOf_L1 p0 x3_3 x23)) ∧ (∀ (p0 : GQuery) (r : Int), iQueryDepth p0 = some r → ACalls Try.prog 14 [(vGQuery p0)] [] fun x _ => x = (fun y => (vI y)) r) ∧ (∀ (p0 : (List GExpr)) (r : Int), iDeepestOf p0 = some r → ACalls Try.prog 42 [(.d (.sl 10 (p0.map cGExpr)))] [] fun x _ => x = (fun y => (vI y)) r) := by
 refine iDeepestOf_L0.mutual_partial_correctness (fun p0 x3 x8 r => avc Try.prog aciDeepestOf_L0 (qiDeepestOf_1 r) (stiDeepestOf_L0 p0 x3 x8)) (fun p0 r => ACalls Try.prog 12 [(vGExpr p0)] [] fun x _ => x = (fun y => (vI y)) r) (fun p0 x3 x11 r => avc Try.prog aciDepthOf_L0 (qiDepthOf_1 r) (stiDepthOf_L0 p0 x3 x11)) (fun p0 x3_3 x23 r => avc Try.prog aciDepthOf_L1 (qiDepthOf_3 r) (stiDepthOf_L1 p0 x3_3 x23)) (fun p0 r => ACalls Try.prog 14 [(vGQuery p0)] [] fun x _ => x = (fun y => (vI y)) r) (fun p0 r => ACalls Try.prog 42 [(.d (.sl 10 (p0.map cGExpr)))] [] fun x _ => x = (fun y => (vI y)) r) ?_ ?_ ?_ ?_ ?_ ?_
 · intro F_iDeepestOf_L0 F_iDepthOf OK_iDeepestOf_L0 OK_iDepthOf p0 x3 x8 r h
   delta aciDeepestOf_L0
   refine loop_unroll (so ?_)
   let a4 : St := (stiDeepestOf_L0 p0 x3 x8).p [(9, (vB (decide (x8 < (ln p0)))))]
   refine st 1 a4 (nx (si ?_))
   refine cd h (fun h => ?_) fun h => ?_
   refine ki (xi (si (bi (so (vs (fun (y : GExpr) => (.rp (oGExpr y))) h (fun y hy => via (l := p0) (f := cGExpr) (g := oGExpr) (k := .i64) hy cGExpr_eq) fun y1 h => ?_)))))
   let a5 : St := ⟨(5, (.ptr 5 0)) :: (11, (vGExpr y1)) :: (10, (.rp (oGExpr y1))) :: a4.env, [(5, bGExpr y1)]⟩
   refine st 3 a5 (nx (oi ?_))
   let a6 : St := a5.p [(13, (vGExpr y1)), (12, (vI x3))]
   refine st 2 a6 (cs h (OK_iDepthOf y1) fun y2 h => ?_)
   let a7 : St := a6.p [(3, (vI (if y2 > x3 then y2 else x3))), (15, (vI (if y2 > x3 then y2 else x3))), (14, (vI y2))]
   refine st 2 a7 (ni (bn (xi (oi ?_))))
   let a8 : St := a7.p [(8, (vI (IntKind.wrap .i64 (x8 + 1)))), (16, (vI (IntKind.wrap .i64 (x8 + 1))))]
   exact st 2 a8 (ni (loop_back (s' := stiDeepestOf_L0 p0 (if y2 > x3 then y2 else x3) (IntKind.wrap .i64 (x8 + 1))) (wr [] (es (es (es (es er_nil)))) br_nil) (OK_iDeepestOf_L0 p0 (if y2 > x3 then y2 else x3) (IntKind.wrap .i64 (x8 + 1)) _ h)))
   refine ei (te (te (bh (xi (so ?_)))))
   let a9 : St := a4.p [(2, (vI x3)), (17, (vI x3))]
   refine st 2 a9 (nx (ri ?_))
   injection h with h; subst h
   exact r1 (v := (vI x3))
 · intro F_iDepthOf_L0 OK_iDepthOf_L0 p0 r h
   refine aof triDepthOf ?_
   show avc Try.prog aciDepthOf (qiDepthOf _) ⟨[(0, (vGExpr p0))], []⟩
   delta aciDepthOf
   refine so ?_
   let a0 : St := ⟨[(2, (vI 0)), (1, (.ptr 1 0)), (0, (vGExpr p0))], [(1, bGExpr p0)]⟩
   refine st 2 a0 (nx (so ?_))
   let a1 : St := a0.p [(3, (vI 0))]
   refine st 1 a1 (nx (si (so ?_)))
   let a2 : St := a1.p [(9, (.d (.sl 10 (p0.kids.map cGExpr)))), (8, (.ptr 1 8))]
   refine st 2 a2 (ps (vI (ln p0.kids)) (vln (sz := 10) (l := p0.kids) (f := cGExpr)) ?_)
   let a3 : St := a2.p [(11, (vI 0)), (10, (vI (ln p0.kids)))]
   exact st 1 a3 (nx (bi (loop_go (s' := stiDepthOf_L0 p0 0 0) (wr [] (es (es (es (es (es er_nil))))) (bs_ br_nil)) (OK_iDepthOf_L0 p0 0 0 _ h))))
 · intro F_iDepthOf F_iDepthOf_L0 F_iDepthOf_L1 OK_iDepthOf OK_iDepthOf_L0 OK_iDepthOf_L1 p0 x3 x11 r h
   delta aciDepthOf_L0
   refine loop_unroll (so ?_)
   let a4 : St := (stiDepthOf_L0 p0 x3 x11).p [(12, (vB (decide (x11 < (ln p0.kids)))))]
   refine st 1 a4 (nx (si ?_))
   refine cd h (fun h => ?_) fun h => ?_
   refine ki (xi (si (bi (so (vs (fun (y : GExpr) => (.rp (oGExpr y))) h (fun y hy => via (l := p0.kids) (f := cGExpr) (g := oGExpr) (k := .i64) hy cGExpr_eq) fun y1 h => ?_)))))
   let a5 : St := ⟨(5, (.ptr 5 0)) :: (14, (vGExpr y1)) :: (13, (.rp (oGExpr y1))) :: a4.env, [(5, bGExpr y1), (1, bGExpr p0)]⟩
   refine st 3 a5 (nx (oi ?_))
   let a6 : St := a5.p [(16, (vGExpr y1)), (15, (vI x3))]
   refine st 2 a6 (cs h (OK_iDepthOf y1) fun y2 h => ?_)
   let a7 : St := a6.p [(3, (vI (if y2 > x3 then y2 else x3))), (18, (vI (if y2 > x3 then y2 else x3))), (17, (vI y2))]
   refine st 2 a7 (ni (bn (xi (oi ?_))))
   let a8 : St := a7.p [(11, (vI (IntKind.wrap .i64 (x11 + 1)))), (19, (vI (IntKind.wrap .i64 (x11 + 1))))]
   exact st 2 a8 (ni (loop_back (s' := stiDepthOf_L0 p0 (if y2 > x3 then y2 else x3) (IntKind.wrap .i64 (x11 + 1))) (wr [] (es (es (es (es (es er_nil))))) (bs_ br_nil)) (OK_iDepthOf_L0 p0 (if y2 > x3 then y2 else x3) (IntKind.wrap .i64 (x11 + 1)) _ h)))
   refine ei (te (te (bh (xi (si (so ?_))))))
   let a9 : St := a4.p [(21, (.d (.sl 6 (p0.sub.map cGQuery)))), (20, (.ptr 1 9))]
   refine st 2 a9 (ps (vI (ln p0.sub)) (vln (sz := 6) (l := p0.sub) (f := cGQuery)) ?_)
   let a10 : St := a9.p [(23, (vI 0)), (22, (vI (ln p0.sub)))]
   exact st 1 a10 (nx (bi (loop_go (s' := stiDepthOf_L1 p0 x3 0) (wr [] (es (es (es (es er_nil)))) br_nil) (OK_iDepthOf_L1 p0 x3 0 _ h))))
 · intro F_iDepthOf_L1 F_iQueryDepth OK_iDepthOf_L1 OK_iQueryDepth p0 x3_3 x23 r h
   delta aciDepthOf_L1
   refine loop_unroll (so ?_)
   let a11 : St := (stiDepthOf_L1 p0 x3_3 x23).p [(24, (vB (decide (x23 < (ln p0.sub)))))]
   refine st 1 a11 (nx (si ?_))
   refine cd h (fun h => ?_) fun h => ?_
   refine ki (xi (si (bi (so (vs (fun (y : GQuery) => (.rp (oGQuery y))) h (fun y hy => via (l := p0.sub) (f := cGQuery) (g := oGQuery) (k := .i64) hy cGQuery_eq) fun y4 h => ?_)))))
   let a12 : St := ⟨(7, (.ptr 7 0)) :: (26, (vGQuery y4)) :: (25, (.rp (oGQuery y4))) :: a11.env, [(7, bGQuery y4)]⟩
   refine st 3 a12 (nx (oi ?_))
   let a13 : St := a12.p [(28, (vGQuery y4)), (27, (vI x3_3))]
   refine st 2 a13 (cs h (OK_iQueryDepth y4) fun y5 h => ?_)
   let a14 : St := a13.p [(3, (vI (if y5 > x3_3 then y5 else x3_3))), (30, (vI (if y5 > x3_3 then y5 else x3_3))), (29, (vI y5))]
   refine st 2 a14 (ni (bn (xi (oi ?_))))
   let a15 : St := a14.p [(23, (vI (IntKind.wrap .i64 (x23 + 1)))), (31, (vI (IntKind.wrap .i64 (x23 + 1))))]
   exact st 2 a15 (ni (loop_back (s' := stiDepthOf_L1 p0 (if y5 > x3_3 then y5 else x3_3) (IntKind.wrap .i64 (x23 + 1))) (wr [] (es (es (es (es er_nil)))) br_nil) (OK_iDepthOf_L1 p0 (if y5 > x3_3 then y5 else x3_3) (IntKind.wrap .i64 (x23 + 1)) _ h)))
   refine ei (te (te (bh (xi (so ?_)))))
   let a16 : St := a11.p [(2, (vI (IntKind.wrap .i64 (1 + x3_3)))), (33, (vI (IntKind.wrap .i64 (1 + x3_3)))), (32, (vI x3_3))]
   refine st 3 a16 (nx (ri ?_))
   injection h with h; subst h
   exact r1 (v := (vI (IntKind.wrap .i64 (1 + x3_3))))
 · intro F_iDeepestOf OK_iDeepestOf p0 r h
   refine aof triQueryDepth ?_
   show avc Try.prog aciQueryDepth (qiQueryDepth _) ⟨[(0, (vGQuery p0))], []⟩
   delta aciQueryDepth
   refine so ?_
   let a0 : St := ⟨[(2, (vI 0)), (1, (.ptr 1 0)), (0, (vGQuery p0))], [(1, bGQuery p0)]⟩
   refine st 2 a0 (nx (so ?_))
   let a1 : St := a0.p [(3, (vGQuery p0))]
   refine st 1 a1 (callg_step ⟨[], [], [], [], [], [(2000000, 4)], [], [4], []⟩ (m := iQuery_exprs p0) (S' := fun (y : (List GExpr)) => ⟨(4, (.osl 4 29 10 (y.map cGExpr))) :: a1.env, a1.bx⟩) h (OK_iQuery_exprs p0) (by kernel_rfl) (by kernel_rfl) (by kernel_rfl) (by kernel_rfl) (fun y => by kernel_rfl) (fun y => by kernel_rfl) ?_)
   clear h; intro y1 h
   refine cs h (OK_iDeepestOf y1) fun y2 h => ?_
   let a2 : St := a1.p [(2, (vI y2)), (5, (vI y2)), (4, (.osl 4 29 10 (y1.map cGExpr)))]
   refine st 1 a2 (nx (ri ?_))
   injection h with h; subst h
   exact r1 (v := (vI y2))
 · intro F_iDeepestOf_L0 OK_iDeepestOf_L0 p0 r h
   refine aof triDeepestOf ?_
   show avc Try.prog aciDeepestOf (qiDeepestOf _) ⟨[(0, (.d (.sl 10 (p0.map cGExpr))))], []⟩
   delta aciDeepestOf
   refine so ?_
   let a0 : St := ⟨[(2, (vI 0)), (0, (.d (.sl 10 (p0.map cGExpr))))], []⟩
   refine st 1 a0 (nx (so ?_))
   let a1 : St := a0.p [(3, (vI 0))]
   refine st 1 a1 (nx (si (so ?_)))
   let a2 : St := a1.p [(6, (.d (.sl 10 (p0.map cGExpr))))]
   refine st 1 a2 (ps (vI (ln p0)) (vln (sz := 10) (l := p0) (f := cGExpr)) ?_)
   let a3 : St := a2.p [(8, (vI 0)), (7, (vI (ln p0)))]
   exact st 1 a3 (nx (bi (loop_go (s' := stiDeepestOf_L0 p0 0 0) (wr [] (es (es (es (es er_nil)))) br_nil) (OK_iDeepestOf_L0 p0 0 0 _ h))))
theorem OK_iDeepestOf_L0 (p0 : (List GExpr)) (x3 : Int) (x8 : Int) (r : Int) (h : iDeepestOf_L0 p0 x3 x8 = some r) : avc Try.prog aciDeepestOf_L0 (qiDeepestOf_1 r) (stiDeepestOf_L0 p0 x3 x8) := (OKs_iDeepestOf_L0).1 p0 x3 x8 r h
theorem OK_iDepthOf (p0 : GExpr) : FOk Try.prog 12 [(vGExpr p0)] (fun y => (vI y)) (iDepthOf p0) := fun r h => (OKs_iDeepestOf_L0).2.1 p0 r h
theorem OK_iDepthOf_L0 (p0 : GExpr) (x3 : Int) (x11 : Int) (r : Int) (h : iDepthOf_L0 p0 x3 x11 = some r) : avc Try.prog aciDepthOf_L0 (qiDepthOf_1 r) (stiDepthOf_L0 p0 x3 x11) := (OKs_iDeepestOf_L0).2.2.1 p0 x3 x11 r h
theorem OK_iDepthOf_L1 (p0 : GExpr) (x3_3 : Int) (x23 : Int) (r : Int) (h : iDepthOf_L1 p0 x3_3 x23 = some r) : avc Try.prog aciDepthOf_L1 (qiDepthOf_3 r) (stiDepthOf_L1 p0 x3_3 x23) := (OKs_iDeepestOf_L0).2.2.2.1 p0 x3_3 x23 r h
theorem OK_iQueryDepth (p0 : GQuery) : FOk Try.prog 14 [(vGQuery p0)] (fun y => (vI y)) (iQueryDepth p0) := fun r h => (OKs_iDeepestOf_L0).2.2.2.2.1 p0 r h
theorem OK_iDeepestOf (p0 : (List GExpr)) : FOk Try.prog 42 [(.d (.sl 10 (p0.map cGExpr)))] (fun y => (vI y)) (iDeepestOf p0) := fun r h => (OKs_iDeepestOf_L0).2.2.2.2.2 p0 r h
theorem OKs_iQuerySize : (∀ (p0 : GQuery) (r : Int), iQuerySize p0 = some r → ACalls Try.prog 15 [(vGQuery p0)] [] fun x _ => x = (fun y => (vI y)) r) ∧ (∀ (p0 : (List GExpr)) (r : Int), iSizeOfAll p0 = some r → ACalls Try.prog 41 [(.d (.sl 10 (p0.map cGExpr)))] [] fun x _ => x = (fun y => (vI y)) r) ∧ (∀ (p0 : (List GExpr)) (x3 : Int) (x8 : Int) (r : Int), iSizeOfAll_L0 p0 x3 x8 = some r → avc Try.prog aciSizeOfAll_L0 (qiSizeOfAll_1 r) (stiSizeOfAll_L0 p0 x3 x8)) ∧ (∀ (p0 : GExpr) (r : Int), iSizeOf p0 = some r → ACalls Try.prog 13 [(vGExpr p0)] [] fun x _ => x = (fun y => (vI y)) r) ∧ (∀ (p0 : GExpr) (x3 : Int) (x13 : Int) (r : Int), iSizeOf_L0 p0 x3 x13 = some r → avc Try.prog aciSizeOf_L0 (qiSizeOf_1 r) (stiSizeOf_L0 p0 x3 x13)) := by
 refine iQuerySize.mutual_partial_correctness (fun p0 r => ACalls Try.prog 15 [(vGQuery p0)] [] fun x _ => x = (fun y => (vI y)) r) (fun p0 r => ACalls Try.prog 41 [(.d (.sl 10 (p0.map cGExpr)))] [] fun x _ => x = (fun y => (vI y)) r) (fun p0 x3 x8 r => avc Try.prog aciSizeOfAll_L0 (qiSizeOfAll_1 r) (stiSizeOfAll_L0 p0 x3 x8)) (fun p0 r => ACalls Try.prog 13 [(vGExpr p0)] [] fun x _ => x = (fun y => (vI y)) r) (fun p0 x3 x13 r => avc Try.prog aciSizeOf_L0 (qiSizeOf_1 r) (stiSizeOf_L0 p0 x3 x13)) ?_ ?_ ?_ ?_ ?_
 · intro F_iSizeOfAll OK_iSizeOfAll p0 r h
   refine aof triQuerySize ?_
   show avc Try.prog aciQuerySize (qiQuerySize _) ⟨[(0, (vGQuery p0))], []⟩
   delta aciQuerySize
   refine so ?_
   let a0 : St := ⟨[(2, (vI 0)), (1, (.ptr 1 0)), (0, (vGQuery p0))], [(1, bGQuery p0)]⟩
   refine st 2 a0 (nx (so ?_))
   let a1 : St := a0.p [(3, (vGQuery p0))]
   refine st 1 a1 (callg_step ⟨[], [], [], [], [], [(2000000, 4)], [], [4], []⟩ (m := iQuery_exprs p0) (S' := fun (y : (List GExpr)) => ⟨(4, (.osl 4 29 10 (y.map cGExpr))) :: a1.env, a1.bx⟩) h (OK_iQuery_exprs p0) (by kernel_rfl) (by kernel_rfl) (by kernel_rfl) (by kernel_rfl) (fun y => by kernel_rfl) (fun y => by kernel_rfl) ?_)
   clear h; intro y1 h
   refine cs h (OK_iSizeOfAll y1) fun y2 h => ?_
   let a2 : St := a1.p [(2, (vI y2)), (5, (vI y2)), (4, (.osl 4 29 10 (y1.map cGExpr)))]
   refine st 1 a2 (nx (ri ?_))
   injection h with h; subst h
   exact r1 (v := (vI y2))
 · intro F_iSizeOfAll_L0 OK_iSizeOfAll_L0 p0 r h
   refine aof triSizeOfAll ?_
   show avc Try.prog aciSizeOfAll (qiSizeOfAll _) ⟨[(0, (.d (.sl 10 (p0.map cGExpr))))], []⟩
   delta aciSizeOfAll
   refine so ?_
   let a0 : St := ⟨[(2, (vI 0)), (0, (.d (.sl 10 (p0.map cGExpr))))], []⟩
   refine st 1 a0 (nx (so ?_))
   let a1 : St := a0.p [(3, (vI 0))]
   refine st 1 a1 (nx (si (so ?_)))
   let a2 : St := a1.p [(6, (.d (.sl 10 (p0.map cGExpr))))]
   refine st 1 a2 (ps (vI (ln p0)) (vln (sz := 10) (l := p0) (f := cGExpr)) ?_)
   let a3 : St := a2.p [(8, (vI 0)), (7, (vI (ln p0)))]
   exact st 1 a3 (nx (bi (loop_go (s' := stiSizeOfAll_L0 p0 0 0) (wr [] (es (es (es (es er_nil)))) br_nil) (OK_iSizeOfAll_L0 p0 0 0 _ h))))
 · intro F_iSizeOfAll_L0 F_iSizeOf OK_iSizeOfAll_L0 OK_iSizeOf p0 x3 x8 r h
   delta aciSizeOfAll_L0
   refine loop_unroll (so ?_)
   let a4 : St := (stiSizeOfAll_L0 p0 x3 x8).p [(9, (vB (decide (x8 < (ln p0)))))]
   refine st 1 a4 (nx (si ?_))
   refine cd h (fun h => ?_) fun h => ?_
   refine ki (xi (si (bi (so (vs (fun (y : GExpr) => (.rp (oGExpr y))) h (fun y hy => via (l := p0) (f := cGExpr) (g := oGExpr) (k := .i64) hy cGExpr_eq) fun y1 h => ?_)))))
   let a5 : St := ⟨(5, (.ptr 5 0)) :: (11, (vGExpr y1)) :: (10, (.rp (oGExpr y1))) :: a4.env, [(5, bGExpr y1)]⟩
   refine st 3 a5 (nx (oi ?_))
   let a6 : St := a5.p [(13, (vGExpr y1)), (12, (vI x3))]
   refine st 2 a6 (cs h (OK_iSizeOf y1) fun y2 h => ?_)
   let a7 : St := a6.p [(3, (vI (IntKind.wrap .i64 (x3 + y2)))), (15, (vI (IntKind.wrap .i64 (x3 + y2)))), (14, (vI y2))]
   refine st 2 a7 (ni (bn (xi (oi ?_))))
   let a8 : St := a7.p [(8, (vI (IntKind.wrap .i64 (x8 + 1)))), (16, (vI (IntKind.wrap .i64 (x8 + 1))))]
   exact st 2 a8 (ni (loop_back (s' := stiSizeOfAll_L0 p0 (IntKind.wrap .i64 (x3 + y2)) (IntKind.wrap .i64 (x8 + 1))) (wr [] (es (es (es (es er_nil)))) br_nil) (OK_iSizeOfAll_L0 p0 (IntKind.wrap .i64 (x3 + y2)) (IntKind.wrap .i64 (x8 + 1)) _ h)))
   refine ei (te (te (bh (xi (so ?_)))))
   let a9 : St := a4.p [(2, (vI x3)), (17, (vI x3))]
   refine st 2 a9 (nx (ri ?_))
   injection h with h; subst h
   exact r1 (v := (vI x3))
 · intro F_iSizeOfAll F_iSizeOf_L0 OK_iSizeOfAll OK_iSizeOf_L0 p0 r h
   refine aof triSizeOf ?_
   show avc Try.prog aciSizeOf (qiSizeOf _) ⟨[(0, (vGExpr p0))], []⟩
   delta aciSizeOf
   refine so ?_
   let a0 : St := ⟨[(2, (vI 0)), (1, (.ptr 1 0)), (0, (vGExpr p0))], [(1, bGExpr p0)]⟩
   refine st 2 a0 (nx (so ?_))
   let a1 : St := a0.p [(7, (.d (.sl 10 (p0.kids.map cGExpr)))), (6, (.ptr 1 8))]
   refine st 2 a1 (cs h (OK_iSizeOfAll p0.kids) fun y1 h => ?_)
   let a2 : St := a1.p [(3, (vI (IntKind.wrap .i64 (1 + y1)))), (9, (vI (IntKind.wrap .i64 (1 + y1)))), (8, (vI y1))]
   refine st 2 a2 (nx (si (so ?_)))
   let a3 : St := a2.p [(11, (.d (.sl 6 (p0.sub.map cGQuery)))), (10, (.ptr 1 9))]
   refine st 2 a3 (ps (vI (ln p0.sub)) (vln (sz := 6) (l := p0.sub) (f := cGQuery)) ?_)
   let a4 : St := a3.p [(13, (vI 0)), (12, (vI (ln p0.sub)))]
   exact st 1 a4 (nx (bi (loop_go (s' := stiSizeOf_L0 p0 (IntKind.wrap .i64 (1 + y1)) 0) (wr [] (es (es (es (es er_nil)))) br_nil) (OK_iSizeOf_L0 p0 (IntKind.wrap .i64 (1 + y1)) 0 _ h))))
 · intro F_iQuerySize F_iSizeOf_L0 OK_iQuerySize OK_iSizeOf_L0 p0 x3 x13 r h
   delta aciSizeOf_L0
   refine loop_unroll (so ?_)
   let a5 : St := (stiSizeOf_L0 p0 x3 x13).p [(14, (vB (decide (x13 < (ln p0.sub)))))]
   refine st 1 a5 (nx (si ?_))
   refine cd h (fun h => ?_) fun h => ?_
   refine ki (xi (si (bi (so (vs (fun (y : GQuery) => (.rp (oGQuery y))) h (fun y hy => via (l := p0.sub) (f := cGQuery) (g := oGQuery) (k := .i64) hy cGQuery_eq) fun y2 h => ?_)))))
   let a6 : St := ⟨(5, (.ptr 5 0)) :: (16, (vGQuery y2)) :: (15, (.rp (oGQuery y2))) :: a5.env, [(5, bGQuery y2)]⟩
   refine st 3 a6 (nx (oi ?_))
   let a7 : St := a6.p [(18, (vGQuery y2)), (17, (vI x3))]
   refine st 2 a7 (cs h (OK_iQuerySize y2) fun y3 h => ?_)
   let a8 : St := a7.p [(3, (vI (IntKind.wrap .i64 (x3 + y3)))), (20, (vI (IntKind.wrap .i64 (x3 + y3)))), (19, (vI y3))]
   refine st 2 a8 (ni (bn (xi (oi ?_))))
   let a9 : St := a8.p [(13, (vI (IntKind.wrap .i64 (x13 + 1)))), (21, (vI (IntKind.wrap .i64 (x13 + 1))))]
   exact st 2 a9 (ni (loop_back (s' := stiSizeOf_L0 p0 (IntKind.wrap .i64 (x3 + y3)) (IntKind.wrap .i64 (x13 + 1))) (wr [] (es (es (es (es er_nil)))) br_nil) (OK_iSizeOf_L0 p0 (IntKind.wrap .i64 (x3 + y3)) (IntKind.wrap .i64 (x13 + 1)) _ h)))
   refine ei (te (te (bh (xi (so ?_)))))
   let a10 : St := a5.p [(2, (vI x3)), (22, (vI x3))]
   refine st 2 a10 (nx (ri ?_))
   injection h with h; subst h
   exact r1 (v := (vI x3))
theorem OK_iQuerySize (p0 : GQuery) : FOk Try.prog 15 [(vGQuery p0)] (fun y => (vI y)) (iQuerySize p0) := fun r h => (OKs_iQuerySize).1 p0 r h
theorem OK_iSizeOfAll (p0 : (List GExpr)) : FOk Try.prog 41 [(.d (.sl 10 (p0.map cGExpr)))] (fun y => (vI y)) (iSizeOfAll p0) := fun r h => (OKs_iQuerySize).2.1 p0 r h
theorem OK_iSizeOfAll_L0 (p0 : (List GExpr)) (x3 : Int) (x8 : Int) (r : Int) (h : iSizeOfAll_L0 p0 x3 x8 = some r) : avc Try.prog aciSizeOfAll_L0 (qiSizeOfAll_1 r) (stiSizeOfAll_L0 p0 x3 x8) := (OKs_iQuerySize).2.2.1 p0 x3 x8 r h
theorem OK_iSizeOf (p0 : GExpr) : FOk Try.prog 13 [(vGExpr p0)] (fun y => (vI y)) (iSizeOf p0) := fun r h => (OKs_iQuerySize).2.2.2.1 p0 r h
theorem OK_iSizeOf_L0 (p0 : GExpr) (x3 : Int) (x13 : Int) (r : Int) (h : iSizeOf_L0 p0 x3 x13 = some r) : avc Try.prog aciSizeOf_L0 (qiSizeOf_1 r) (stiSizeOf_L0 p0 x3 x13) := (OKs_iQuerySize).2.2.2.2 p0 x3 x13 r h
theorem OKs_iStmt_exprs_L0 (p0 : GStmt) : (∀ (x3 : (List GExpr)) (x12 : Int) (r : (List GExpr)), iStmt_exprs_L0 p0 x3 x12 = some r → avc Try.prog aciStmt_exprs_L0 (qiStmt_exprs_1 r) (stiStmt_exprs_L0 p0 x3 x12)) := by
 refine iStmt_exprs_L0.partial_correctness p0 (fun x3 x12 r => avc Try.prog aciStmt_exprs_L0 (qiStmt_exprs_1 r) (stiStmt_exprs_L0 p0 x3 x12)) ?_
 · intro F_iStmt_exprs_L0 OK_iStmt_exprs_L0 x3 x12 r h
   delta aciStmt_exprs_L0
   refine loop_unroll (so ?_)
   let a5 : St := (stiStmt_exprs_L0 p0 x3 x12).p [(13, (vB (decide (x12 < (ln p0.rows)))))]
   refine st 1 a5 (nx (si ?_))
   refine cd h (fun h => ?_) fun h => ?_
   refine ki (xi (si (bi (so (vs (fun (y : (List GExpr)) => (.rp [(.sl 10 (y.map cGExpr))])) h (fun y hy => via (l := p0.rows) (f := (cSl 10 cGExpr)) (g := (cSl 10 cGExpr)) (k := .i64) hy (fun _ => rfl)) fun y2 h => ?_)))))
   let a6 : St := a5.p [(5, (.d (.sl 10 (y2.map cGExpr)))), (15, (.d (.sl 10 (y2.map cGExpr)))), (14, (.rp [(.sl 10 (y2.map cGExpr))]))]
   refine st 2 a6 (nx (oi ?_))
   let a7 : St := a6.p [(17, (.d (.sl 10 (y2.map cGExpr)))), (16, (.osl 3 29 10 (x3.map cGExpr)))]
   refine st 2 a7 ?_
   refine app_step (t := 3) (l := x3) (m := y2) (f := cGExpr) (S' := fun y => ⟨[(18, (.osl 18 29 10 (y.map cGExpr))), (17, (.d (.sl 10 (y2.map cGExpr)))), (16, (.d (.sl 10 (x3.map cGExpr)))), (5, (.d (.sl 10 (y2.map cGExpr)))), (15, (.d (.sl 10 (y2.map cGExpr)))), (14, (.rp [(.sl 10 (y2.map cGExpr))])), (13, (vB (decide (x12 < (ln p0.rows))))), (1, (.ptr 1 0)), (3, (.d (.sl 10 (x3.map cGExpr)))), (10, (.d (.sl 1 (p0.rows.map (cSl 10 cGExpr))))), (11, (vI (ln p0.rows))), (12, (vI x12))], [(1, bGStmt p0)]⟩) h (by kernel_rfl) (by kernel_rfl) (by kernel_rfl) (by kernel_rfl) (fun y => by kernel_rfl) ?_
   clear h; intro y3 h
   let a8 : St := ⟨[(3, (.osl 3 29 10 (y3.map cGExpr))), (18, (.d (.sl 10 (y3.map cGExpr)))), (17, (.d (.sl 10 (y2.map cGExpr)))), (16, (.d (.sl 10 (x3.map cGExpr)))), (5, (.d (.sl 10 (y2.map cGExpr)))), (15, (.d (.sl 10 (y2.map cGExpr)))), (14, (.rp [(.sl 10 (y2.map cGExpr))])), (13, (vB (decide (x12 < (ln p0.rows))))), (1, (.ptr 1 0)), (3, (.d (.sl 10 (x3.map cGExpr)))), (10, (.d (.sl 1 (p0.rows.map (cSl 10 cGExpr))))), (11, (vI (ln p0.rows))), (12, (vI x12))], [(1, bGStmt p0)]⟩
   refine st 1 a8 (ni (bn (xi (oi ?_))))
   let a9 : St := a8.p [(12, (vI (IntKind.wrap .i64 (x12 + 1)))), (19, (vI (IntKind.wrap .i64 (x12 + 1))))]
   exact st 2 a9 (ni (loop_back (s' := stiStmt_exprs_L0 p0 y3 (IntKind.wrap .i64 (x12 + 1))) (wr [(3, .old 3)] (es (eo 3 (es (es (es er_nil))))) (bs_ br_nil)) (OK_iStmt_exprs_L0 y3 (IntKind.wrap .i64 (x12 + 1)) _ h)))
   refine ei (te (te (bh (xi (so ?_)))))
   let a10 : St := a5.p [(22, (.d (.sl 10 (p0.sets.map cGExpr)))), (21, (.ptr 1 10)), (20, (.osl 3 29 10 (x3.map cGExpr)))]
   refine st 3 a10 ?_
   refine app_step (t := 3) (l := x3) (m := p0.sets) (f := cGExpr) (S' := fun y => ⟨[(23, (.osl 23 29 10 (y.map cGExpr))), (22, (.d (.sl 10 (p0.sets.map cGExpr)))), (21, (.ptr 1 10)), (20, (.d (.sl 10 (x3.map cGExpr)))), (13, (vB (decide (x12 < (ln p0.rows))))), (1, (.ptr 1 0)), (3, (.d (.sl 10 (x3.map cGExpr)))), (10, (.d (.sl 1 (p0.rows.map (cSl 10 cGExpr))))), (11, (vI (ln p0.rows))), (12, (vI x12))], [(1, bGStmt p0)]⟩) h (by kernel_rfl) (by kernel_rfl) (by kernel_rfl) (by kernel_rfl) (fun y => by kernel_rfl) ?_
   clear h; intro y4 h
   let a11 : St := ⟨[(3, (.osl 3 29 10 (y4.map cGExpr))), (23, (.d (.sl 10 (y4.map cGExpr)))), (22, (.d (.sl 10 (p0.sets.map cGExpr)))), (21, (.ptr 1 10)), (20, (.d (.sl 10 (x3.map cGExpr)))), (13, (vB (decide (x12 < (ln p0.rows))))), (1, (.ptr 1 0)), (3, (.d (.sl 10 (x3.map cGExpr)))), (10, (.d (.sl 1 (p0.rows.map (cSl 10 cGExpr))))), (11, (vI (ln p0.rows))), (12, (vI x12))], [(1, bGStmt p0)]⟩
   refine st 1 a11 (nx (so ?_))
   let a12 : St := a11.p [(26, (.d (.sl 10 (p0.where_.map cGExpr)))), (25, (.ptr 1 11)), (24, (.osl 3 29 10 (y4.map cGExpr)))]
   refine st 3 a12 ?_
   refine app_step (t := 3) (l := y4) (m := p0.where_) (f := cGExpr) (S' := fun y => ⟨[(27, (.osl 27 29 10 (y.map cGExpr))), (26, (.d (.sl 10 (p0.where_.map cGExpr)))), (25, (.ptr 1 11)), (24, (.d (.sl 10 (y4.map cGExpr)))), (3, (.d (.sl 10 (y4.map cGExpr)))), (23, (.d (.sl 10 (y4.map cGExpr)))), (22, (.d (.sl 10 (p0.sets.map cGExpr)))), (21, (.ptr 1 10)), (20, (.d (.sl 10 (x3.map cGExpr)))), (13, (vB (decide (x12 < (ln p0.rows))))), (1, (.ptr 1 0)), (3, (.d (.sl 10 (x3.map cGExpr)))), (10, (.d (.sl 1 (p0.rows.map (cSl 10 cGExpr))))), (11, (vI (ln p0.rows))), (12, (vI x12))], [(1, bGStmt p0)]⟩) h (by kernel_rfl) (by kernel_rfl) (by kernel_rfl) (by kernel_rfl) (fun y => by kernel_rfl) ?_
   clear h; intro y5 h
   let a13 : St := ⟨[(2, (.osl 2 29 10 (y5.map cGExpr))), (27, (.d (.sl 10 (y5.map cGExpr)))), (26, (.d (.sl 10 (p0.where_.map cGExpr)))), (25, (.ptr 1 11)), (24, (.d (.sl 10 (y4.map cGExpr)))), (3, (.d (.sl 10 (y4.map cGExpr)))), (23, (.d (.sl 10 (y4.map cGExpr)))), (22, (.d (.sl 10 (p0.sets.map cGExpr)))), (21, (.ptr 1 10)), (20, (.d (.sl 10 (x3.map cGExpr)))), (13, (vB (decide (x12 < (ln p0.rows))))), (1, (.ptr 1 0)), (3, (.d (.sl 10 (x3.map cGExpr)))), (10, (.d (.sl 1 (p0.rows.map (cSl 10 cGExpr))))), (11, (vI (ln p0.rows))), (12, (vI x12))], [(1, bGStmt p0)]⟩
   refine st 1 a13 (nx (ret_wk (s' := ⟨[(2, (.osl 2000000 29 10 (y5.map cGExpr)))], []⟩) (wr [(2000000, .old 2)] (eo 2 er_nil) br_nil) ?_))
   injection h with h; subst h
   exact ret1_step (v := (.osl 2000000 29 10 (y5.map cGExpr))) (by kernel_rfl) (by kernel_rfl) ⟨by kernel_rfl, trivial⟩
theorem OK_iStmt_exprs_L0 (p0 : GStmt) (x3 : (List GExpr)) (x12 : Int) (r : (List GExpr)) (h : iStmt_exprs_L0 p0 x3 x12 = some r) : avc Try.prog aciStmt_exprs_L0 (qiStmt_exprs_1 r) (stiStmt_exprs_L0 p0 x3 x12) := (OKs_iStmt_exprs_L0 p0) x3 x12 r h
theorem OK_iStmt_exprs (p0 : GStmt) : FOkB Try.prog 48 [(vGStmt p0)] [] (fun (y : (List GExpr)) => (.osl 2000000 29 10 (y.map cGExpr))) (fun (y : (List GExpr)) => []) (iStmt_exprs p0) := by
 intro r h
 rw [iStmt_exprs] at h
 refine aof triStmt_exprs ?_
 show avc Try.prog aciStmt_exprs (qiStmt_exprs _) ⟨[(0, (vGStmt p0))], []⟩
 delta aciStmt_exprs
 refine so ?_
 let a0 : St := ⟨[(2, (.nil 10)), (1, (.ptr 1 0)), (0, (vGStmt p0))], [(1, bGStmt p0)]⟩
 refine st 2 a0 (nx (so ?_))
 let a1 : St := a0.p [(7, (vGQuery p0.query)), (6, (.ptr 1 1))]
 refine st 2 a1 (callg_step ⟨[], [], [], [], [], [(2000000, 8)], [], [8], []⟩ (m := iQuery_exprs p0.query) (S' := fun (y : (List GExpr)) => ⟨(8, (.osl 8 29 10 (y.map cGExpr))) :: a1.env, a1.bx⟩) h (OK_iQuery_exprs p0.query) (by kernel_rfl) (by kernel_rfl) (by kernel_rfl) (by kernel_rfl) (fun y => by kernel_rfl) (fun y => by kernel_rfl) ?_)
 clear h; intro y1 h
 let a2 : St := a1.p [(3, (.osl 3 29 10 (y1.map cGExpr))), (8, (.d (.sl 10 (y1.map cGExpr))))]
 refine st 1 a2 (nx (si (so ?_)))
 let a3 : St := a2.p [(10, (.d (.sl 1 (p0.rows.map (cSl 10 cGExpr))))), (9, (.ptr 1 8))]
 refine st 2 a3 (ps (vI (ln p0.rows)) (vln (sz := 1) (l := p0.rows) (f := (cSl 10 cGExpr))) ?_)
 let a4 : St := a3.p [(12, (vI 0)), (11, (vI (ln p0.rows)))]
 exact st 1 a4 (nx (bi (loop_go (s' := stiStmt_exprs_L0 p0 y1 0) (wr [(3, .old 3)] (es (eo 3 (es (es (es er_nil))))) (bs_ br_nil)) (OK_iStmt_exprs_L0 p0 y1 0 _ h))))
theorem OK_iStmtDepth (p0 : GStmt) : FOk Try.prog 19 [(vGStmt p0)] (fun y => (vI y)) (iStmtDepth p0) := by
 intro r h
 rw [iStmtDepth] at h
 refine aof triStmtDepth ?_
 show avc Try.prog aciStmtDepth (qiStmtDepth _) ⟨[(0, (vGStmt p0))], []⟩
 delta aciStmtDepth
 refine so ?_
 let a0 : St := ⟨[(2, (vI 0)), (1, (.ptr 1 0)), (0, (vGStmt p0))], [(1, bGStmt p0)]⟩
 refine st 2 a0 (nx (so ?_))
 let a1 : St := a0.p [(3, (vGStmt p0))]
 refine st 1 a1 (callg_step ⟨[], [], [], [], [], [(2000000, 4)], [], [4], []⟩ (m := iStmt_exprs p0) (S' := fun (y : (List GExpr)) => ⟨(4, (.osl 4 29 10 (y.map cGExpr))) :: a1.env, a1.bx⟩) h (OK_iStmt_exprs p0) (by kernel_rfl) (by kernel_rfl) (by kernel_rfl) (by kernel_rfl) (fun y => by kernel_rfl) (fun y => by kernel_rfl) ?_)
 clear h; intro y1 h
 refine cs h (OK_iDeepestOf y1) fun y2 h => ?_
 let a2 : St := a1.p [(2, (vI y2)), (5, (vI y2)), (4, (.osl 4 29 10 (y1.map cGExpr)))]
 refine st 1 a2 (nx (ri ?_))
 injection h with h; subst h
 exact r1 (v := (vI y2))
theorem OK_iStmtSize (p0 : GStmt) : FOk Try.prog 20 [(vGStmt p0)] (fun y => (vI y)) (iStmtSize p0) := by
 intro r h
 rw [iStmtSize] at h
 refine aof triStmtSize ?_
 show avc Try.prog aciStmtSize (qiStmtSize _) ⟨[(0, (vGStmt p0))], []⟩
 delta aciStmtSize
 refine so ?_
 let a0 : St := ⟨[(2, (vI 0)), (1, (.ptr 1 0)), (0, (vGStmt p0))], [(1, bGStmt p0)]⟩
 refine st 2 a0 (nx (so ?_))
 let a1 : St := a0.p [(3, (vGStmt p0))]
 refine st 1 a1 (callg_step ⟨[], [], [], [], [], [(2000000, 4)], [], [4], []⟩ (m := iStmt_exprs p0) (S' := fun (y : (List GExpr)) => ⟨(4, (.osl 4 29 10 (y.map cGExpr))) :: a1.env, a1.bx⟩) h (OK_iStmt_exprs p0) (by kernel_rfl) (by kernel_rfl) (by kernel_rfl) (by kernel_rfl) (fun y => by kernel_rfl) (fun y => by kernel_rfl) ?_)
 clear h; intro y1 h
 refine cs h (OK_iSizeOfAll y1) fun y2 h => ?_
 let a2 : St := a1.p [(2, (vI y2)), (5, (vI y2)), (4, (.osl 4 29 10 (y1.map cGExpr)))]
 refine st 1 a2 (nx (ri ?_))
 injection h with h; subst h
 exact r1 (v := (vI y2))
theorem OKs_sL7CopyQuery_X_L2 : (∀ (p0 : GQuery) (b60068001_0 : (List GSource)) (b60021000_0 : (List GItem)) (y1 : (List GExpr)) (x7 : Int) (b60118003_0 : (List GSortKey)) (r : GQuery), sL7CopyQuery_X_L2 p0 b60068001_0 b60021000_0 y1 x7 b60118003_0 = some r → avc Try.prog acsL7CopyQuery_X_L2 (qsL7CopyQuery_X_5 r) (stsL7CopyQuery_X_L2 p0 b60068001_0 b60021000_0 y1 x7 b60118003_0)) ∧ (∀ (p0 : GExpr) (r : GExpr), sL7Copy_X p0 = some r → ACalls Try.prog 92 [(vGExpr p0)] [] fun x b => x = (fun (y : GExpr) => (.agv [(vI y.kind), (vI y.op), (vB y.not_), (vI y.value.kind), (vI y.value.num), (vS y.value.text), (vS y.qual), (vS y.name), (.tre 10000008), (.tre 10000009)])) r ∧ bxHas ((fun (y : GExpr) => [(10000008, [(.trc 10 (y.kids.map cGExpr))]), (10000009, [(.trc 6 (y.sub.map cGQuery))])]) r) b) ∧ (∀ (p0 : GExpr) (y1 : (List GExpr)) (x4 : Int) (b60025001_0 : (List GQuery)) (r : GExpr), sL7Copy_X_L0 p0 y1 x4 b60025001_0 = some r → avc Try.prog acsL7Copy_X_L0 (qsL7Copy_X_1 r) (stsL7Copy_X_L0 p0 y1 x4 b60025001_0)) ∧ (∀ (p0 : GQuery) (r : GQuery), sL7CopyQuery_X p0 = some r → ACalls Try.prog 155 [(vGQuery p0)] [] fun x b => x = (fun (y : GQuery) => (.agv [(vB y.distinct), (.tre 10000001), (.tre 10000002), (.tre 10000003), (.tre 10000004), (vI y.limit)])) r ∧ bxHas ((fun (y : GQuery) => [(10000001, [(.trc 13 (y.items.map cGItem))]), (10000002, [(.trc 3 (y.from_.map cGSource))]), (10000003, [(.trc 10 (y.where_.map cGExpr))]), (10000004, [(.trc 11 (y.order.map cGSortKey))])]) r) b) ∧ (∀ (p0 : GQuery) (y1 : (List GExpr)) (x4 : Int) (b60021000_0 : (List GItem)) (r : GQuery), sL7CopyQuery_X_L0 p0 y1 x4 b60021000_0 = some r → avc Try.prog acsL7CopyQuery_X_L0 (qsL7CopyQuery_X_1 r) (stsL7CopyQuery_X_L0 p0 y1 x4 b60021000_0)) ∧ (∀ (p0 : GQuery) (b60021000_0 : (List GItem)) (y1 : (List GExpr)) (x6 : Int) (b60068001_0 : (List GSource)) (r : GQuery), sL7CopyQuery_X_L1 p0 b60021000_0 y1 x6 b60068001_0 = some r → avc Try.prog acsL7CopyQuery_X_L1 (qsL7CopyQuery_X_3 r) (stsL7CopyQuery_X_L1 p0 b60021000_0 y1 x6 b60068001_0)) ∧ (∀ (p0 : (List GExpr)) (r : (List GExpr)), sL7Copies_X p0 = some r → ACalls Try.prog 46 [(.d (.sl 10 (p0.map cGExpr)))] [] fun x b => x = (fun (y : (List GExpr)) => (.tre 10000000)) r ∧ bxHas ((fun (y : (List GExpr)) => [(10000000, [(.trc 10 (y.map cGExpr))])]) r) b) ∧ (∀ (p0 : (List GExpr)) (x4 : Int) (b60012000_0 : (List GExpr)) (r : (List GExpr)), sL7Copies_X_L0 p0 x4 b60012000_0 = some r → avc Try.prog acsL7Copies_X_L0 (qsL7Copies_X_1 r) (stsL7Copies_X_L0 p0 x4 b60012000_0)) := by
 refine sL7CopyQuery_X_L2.mutual_partial_correctness (fun p0 b60068001_0 b60021000_0 y1 x7 b60118003_0 r => avc Try.prog acsL7CopyQuery_X_L2 (qsL7CopyQuery_X_5 r) (stsL7CopyQuery_X_L2 p0 b60068001_0 b60021000_0 y1 x7 b60118003_0)) (fun p0 r => ACalls Try.prog 92 [(vGExpr p0)] [] fun x b => x = (fun (y : GExpr) => (.agv [(vI y.kind), (vI y.op), (vB y.not_), (vI y.value.kind), (vI y.value.num), (vS y.value.text), (vS y.qual), (vS y.name), (.tre 10000008), (.tre 10000009)])) r ∧ bxHas ((fun (y : GExpr) => [(10000008, [(.trc 10 (y.kids.map cGExpr))]), (10000009, [(.trc 6 (y.sub.map cGQuery))])]) r) b) (fun p0 y1 x4 b60025001_0 r => avc Try.prog acsL7Copy_X_L0 (qsL7Copy_X_1 r) (stsL7Copy_X_L0 p0 y1 x4 b60025001_0)) (fun p0 r => ACalls Try.prog 155 [(vGQuery p0)] [] fun x b => x = (fun (y : GQuery) => (.agv [(vB y.distinct), (.tre 10000001), (.tre 10000002), (.tre 10000003), (.tre 10000004), (vI y.limit)])) r ∧ bxHas ((fun (y : GQuery) => [(10000001, [(.trc 13 (y.items.map cGItem))]), (10000002, [(.trc 3 (y.from_.map cGSource))]), (10000003, [(.trc 10 (y.where_.map cGExpr))]), (10000004, [(.trc 11 (y.order.map cGSortKey))])]) r) b) (fun p0 y1 x4 b60021000_0 r => avc Try.prog acsL7CopyQuery_X_L0 (qsL7CopyQuery_X_1 r) (stsL7CopyQuery_X_L0 p0 y1 x4 b60021000_0)) (fun p0 b60021000_0 y1 x6 b60068001_0 r => avc Try.prog acsL7CopyQuery_X_L1 (qsL7CopyQuery_X_3 r) (stsL7CopyQuery_X_L1 p0 b60021000_0 y1 x6 b60068001_0)) (fun p0 r => ACalls Try.prog 46 [(.d (.sl 10 (p0.map cGExpr)))] [] fun x b => x = (fun (y : (List GExpr)) => (.tre 10000000)) r ∧ bxHas ((fun (y : (List GExpr)) => [(10000000, [(.trc 10 (y.map cGExpr))])]) r) b) (fun p0 x4 b60012000_0 r => avc Try.prog acsL7Copies_X_L0 (qsL7Copies_X_1 r) (stsL7Copies_X_L0 p0 x4 b60012000_0)) ?_ ?_ ?_ ?_ ?_ ?_ ?_ ?_
 · intro F_sL7CopyQuery_X_L2 F_sL7Copy_X OK_sL7CopyQuery_X_L2 OK_sL7Copy_X p0 b60068001_0 b60021000_0 y1 x7 b60118003_0 r h
   delta acsL7CopyQuery_X_L2
   refine loop_unroll (si (so ?_))
   let a24 : St := (stsL7CopyQuery_X_L2 p0 b60068001_0 b60021000_0 y1 x7 b60118003_0).p [(72, (.d (.sl 11 (p0.order.map cGSortKey)))), (71, (.ptr 1 4)), (70, (vI x7))]
   refine st 3 a24 (ps (vI (ln p0.order)) (vln (sz := 11) (l := p0.order) (f := cGSortKey)) ?_)
   let a25 : St := a24.p [(74, (vB (decide (x7 < (ln p0.order))))), (73, (vI (ln p0.order)))]
   refine st 1 a25 (nx ?_)
   refine cd h (fun h => ?_) fun h => ?_
   refine ki (xi (si (bi (dops_in ?_))))
   let a26 : St := a25.p [(81, (vI x7)), (80, (.d (.sl 11 (p0.order.map cGSortKey)))), (79, (.ptr 1 4)), (78, (.tre 60118003)), (77, (.ptr 3 4))]
   refine dsts_ok 5 (s' := a26) (by kernel_rfl) (dv_step (m := idx p0.order x7) (v' := fun y => (.rp (oGSortKey y))) h rfl rfl (fun y hy => via (l := p0.order) (f := cGSortKey) (g := oGSortKey) (k := .i64) hy cGSortKey_eq) ?_)
   clear h; intro y10 h
   let a27 : St := a26.p [(84, (vGExpr y10.expr)), (83, (.rp [(.i .i64 y10.expr.kind), (.i .i64 y10.expr.op), (.b y10.expr.not_), (.i .i64 y10.expr.value.kind), (.i .i64 y10.expr.value.num), (.s (bs y10.expr.value.text)), (.s (bs y10.expr.qual)), (.s (bs y10.expr.name)), (.sl 10 (y10.expr.kids.map cGExpr)), (.sl 6 (y10.expr.sub.map cGQuery)), (.b y10.desc)])), (82, (.rp (oGSortKey y10)))]
   refine dsts_ok 2 (s' := a27) (by kernel_rfl) ?_
   refine dcallg_step ⟨[], [], [], [], [], [], [(10000008, 41410008), (10000009, 41410009)], [], []⟩ [] [] (m := F_sL7Copy_X y10.expr) (S' := fun (y : GExpr) => ⟨(85, (.agv [(vI y.kind), (vI y.op), (vB y.not_), (vI y.value.kind), (vI y.value.num), (vS y.value.text), (vS y.qual), (vS y.name), (.tre 41410008), (.tre 41410009)])) :: a27.env, [(41410008, [(.trc 10 (y.kids.map cGExpr))]), (41410009, [(.trc 6 (y.sub.map cGQuery))]), (1, bGQuery p0), (2, [(vB false), (.nil 13), (.nil 3), (.nil 10), (.nil 11), (vI 0)]), (3, [(vB p0.distinct), (.tre 60118000), (.tre 60118001), (.tre 60118002), (.tre 60118003), (vI p0.limit)]), (60118003, [(.trc 11 (b60118003_0.map cGSortKey))]), (60118001, [(.trc 3 (b60068001_0.map cGSource))]), (60118000, [(.trc 13 (b60021000_0.map cGItem))]), (60118002, [(.trc 10 (y1.map cGExpr))])]⟩) h (OK_sL7Copy_X y10.expr) (by kernel_rfl) (by kernel_rfl) (by kernel_rfl) (by kernel_rfl) (fun y => by kernel_rfl) (fun y => by kernel_rfl) ?_
   clear h; intro y11 h
   let a28 : St := ⟨(88, (vI x7)) :: (87, (.d (.sl 11 (p0.order.map cGSortKey)))) :: (86, (.ptr 1 4)) :: (85, (.agv [(vI y11.kind), (vI y11.op), (vB y11.not_), (vI y11.value.kind), (vI y11.value.num), (vS y11.value.text), (vS y11.qual), (vS y11.name), (.tre 41410008), (.tre 41410009)])) :: a27.env, [(41410008, [(.trc 10 (y11.kids.map cGExpr))]), (41410009, [(.trc 6 (y11.sub.map cGQuery))]), (1, bGQuery p0), (2, [(vB false), (.nil 13), (.nil 3), (.nil 10), (.nil 11), (vI 0)]), (3, [(vB p0.distinct), (.tre 60118000), (.tre 60118001), (.tre 60118002), (.tre 60118003), (vI p0.limit)]), (60118003, [(.trc 11 (b60118003_0.map cGSortKey))]), (60118001, [(.trc 3 (b60068001_0.map cGSource))]), (60118000, [(.trc 13 (b60021000_0.map cGItem))]), (60118002, [(.trc 10 (y1.map cGExpr))])]⟩
   refine dsts_ok 3 (s' := a28) (by kernel_rfl) (dv_step (m := idx p0.order x7) (v' := fun y => (.rp (oGSortKey y))) h rfl rfl (fun y hy => via (l := p0.order) (f := cGSortKey) (g := oGSortKey) (k := .i64) hy cGSortKey_eq) ?_)
   clear h; intro y12 h
   let a29 : St := a28.p [(91, (vB y12.desc)), (90, (.rp [(.b y12.desc)])), (89, (.rp (oGSortKey y12)))]
   refine dsts_ok 2 (s' := a29) (by kernel_rfl) ?_
   refine dbldv_step (c := [(vI y11.kind), (vI y11.op), (vB y11.not_), (vI y11.value.kind), (vI y11.value.num), (vS y11.value.text), (vS y11.qual), (vS y11.name), (.tre 41410008), (.tre 41410009), (vB y12.desc)]) (s' := ⟨(92, (.agv [(vI y11.kind), (vI y11.op), (vB y11.not_), (vI y11.value.kind), (vI y11.value.num), (vS y11.value.text), (vS y11.qual), (vS y11.name), (.tre 41410008), (.tre 41410009), (vB y12.desc)])) :: a29.env, a29.bx⟩) (by kernel_rfl) (by kernel_rfl) (by kernel_rfl) ?_
   refine dbslT_step (l := ([(GSortKey.mk y11 y12.desc)] : List GSortKey)) (f := cGSortKey) (g := oGSortKey) [41410008, 41410009] (s' := ⟨(93, (.tre 93)) :: (92, (.agv [(vI y11.kind), (vI y11.op), (vB y11.not_), (vI y11.value.kind), (vI y11.value.num), (vS y11.value.text), (vS y11.qual), (vS y11.name), (.tre 41410008), (.tre 41410009), (vB y12.desc)])) :: a29.env, [(93, [(.trc 11 (([(GSortKey.mk y11 y12.desc)] : List GSortKey).map cGSortKey))]), (41410008, [.trd]), (41410009, [.trd]), (1, bGQuery p0), (2, [(vB false), (.nil 13), (.nil 3), (.nil 10), (.nil 11), (vI 0)]), (3, [(vB p0.distinct), (.tre 60118000), (.tre 60118001), (.tre 60118002), (.tre 60118003), (vI p0.limit)]), (60118003, [(.trc 11 (b60118003_0.map cGSortKey))]), (60118001, [(.trc 3 (b60068001_0.map cGSource))]), (60118000, [(.trc 13 (b60021000_0.map cGItem))]), (60118002, [(.trc 10 (y1.map cGExpr))])]⟩) (by kernel_rfl) cGSortKey_eq (by kernel_rfl) (by kernel_rfl) ?_
   refine dappTT_step (l := b60118003_0) (m := ([(GSortKey.mk y11 y12.desc)] : List GSortKey)) (f := cGSortKey) [60118003] [93] (S' := fun y => ⟨(94, (.tre 94)) :: (93, (.tre 93)) :: (92, (.agv [(vI y11.kind), (vI y11.op), (vB y11.not_), (vI y11.value.kind), (vI y11.value.num), (vS y11.value.text), (vS y11.qual), (vS y11.name), (.tre 41410008), (.tre 41410009), (vB y12.desc)])) :: a29.env, [(94, [(.trc 11 (y.map cGSortKey))]), (93, [.trd]), (41410008, [.trd]), (41410009, [.trd]), (1, bGQuery p0), (2, [(vB false), (.nil 13), (.nil 3), (.nil 10), (.nil 11), (vI 0)]), (3, [(vB p0.distinct), (.tre 60118000), (.tre 60118001), (.tre 60118002), (.tre 60118003), (vI p0.limit)]), (60118003, [.trd]), (60118001, [(.trc 3 (b60068001_0.map cGSource))]), (60118000, [(.trc 13 (b60021000_0.map cGItem))]), (60118002, [(.trc 10 (y1.map cGExpr))])]⟩) h (by kernel_rfl) (by kernel_rfl) (by kernel_rfl) (by kernel_rfl) (fun y => by kernel_rfl) ?_
   clear h; intro y13 h
   let a30 : St := ⟨(95, (.ptr 3 4)) :: (94, (.tre 94)) :: (93, (.tre 93)) :: (92, (.agv [(vI y11.kind), (vI y11.op), (vB y11.not_), (vI y11.value.kind), (vI y11.value.num), (vS y11.value.text), (vS y11.qual), (vS y11.name), (.tre 41410008), (.tre 41410009), (vB y12.desc)])) :: a29.env, [(94, [(.trc 11 (y13.map cGSortKey))]), (93, [.trd]), (41410008, [.trd]), (41410009, [.trd]), (1, bGQuery p0), (2, [(vB false), (.nil 13), (.nil 3), (.nil 10), (.nil 11), (vI 0)]), (3, [(vB p0.distinct), (.tre 60118000), (.tre 60118001), (.tre 60118002), (.tre 94), (vI p0.limit)]), (60118003, [.trd]), (60118001, [(.trc 3 (b60068001_0.map cGSource))]), (60118000, [(.trc 13 (b60021000_0.map cGItem))]), (60118002, [(.trc 10 (y1.map cGExpr))])]⟩
   refine dsts_ok 2 (s' := a30) (by kernel_rfl) (dnil_in (by kernel_rfl) (by kernel_rfl) (bn (xi (oi ?_))))
   let a31 : St := a30.p [(7, (vI (IntKind.wrap .i64 (x7 + 1)))), (76, (vI (IntKind.wrap .i64 (x7 + 1)))), (75, (vI x7))]
   refine st 3 a31 (ni ?_)
   exact loop_back (s' := stsL7CopyQuery_X_L2 p0 b60068001_0 b60021000_0 y1 (IntKind.wrap .i64 (x7 + 1)) y13) (tw [.rn [(94, 60118003)]] (wr [] (es (es (es (es er_nil)))) (bs_ (bs_ (bs_ (bs_ (bs_ (bs_ (bs_ br_nil))))))))) (OK_sL7CopyQuery_X_L2 p0 b60068001_0 b60021000_0 y1 (IntKind.wrap .i64 (x7 + 1)) y13 _ h)
   refine ei (te (te (bh (xi (so ?_)))))
   let a32 : St := ⟨(96, (.agv [(vB p0.distinct), (.tre 60118000), (.tre 60118001), (.tre 60118002), (.tre 60118003), (vI p0.limit)])) :: a25.env, [(1, bGQuery p0), (2, [(vB p0.distinct), (.tre 60118000), (.tre 60118001), (.tre 60118002), (.tre 60118003), (vI p0.limit)]), (3, [(vB p0.distinct), (.tre 60118000), (.tre 60118001), (.tre 60118002), (.tre 60118003), (vI p0.limit)]), (60118003, [(.trc 11 (b60118003_0.map cGSortKey))]), (60118001, [(.trc 3 (b60068001_0.map cGSource))]), (60118000, [(.trc 13 (b60021000_0.map cGItem))]), (60118002, [(.trc 10 (y1.map cGExpr))])]⟩
   refine st 2 a32 (nx ?_)
   refine ret_wk (s' := ⟨[(2, (.ptr 2 0))], [(2, [(vB p0.distinct), (.tre 10000001), (.tre 10000002), (.tre 10000003), (.tre 10000004), (vI p0.limit)]), (10000004, [(.trc 11 (b60118003_0.map cGSortKey))]), (10000002, [(.trc 3 (b60068001_0.map cGSource))]), (10000001, [(.trc 13 (b60021000_0.map cGItem))]), (10000003, [(.trc 10 (y1.map cGExpr))])]⟩) (tw [.rn [(60118000, 10000001), (60118001, 10000002), (60118002, 10000003), (60118003, 10000004)]] (wr [] (es er_nil) (br_cons (c0 := [(vB p0.distinct), (.tre 10000001), (.tre 10000002), (.tre 10000003), (.tre 10000004), (vI p0.limit)]) (by kernel_rfl) (vrs_cons (vr_same (by kernel_rfl) (by kernel_rfl)) (vrs_cons (vr_same (by kernel_rfl) (by kernel_rfl)) (vrs_cons (vr_same (by kernel_rfl) (by kernel_rfl)) (vrs_cons (vr_same (by kernel_rfl) (by kernel_rfl)) (vrs_cons (vr_same (by kernel_rfl) (by kernel_rfl)) (vrs_cons (vr_same (by kernel_rfl) (by kernel_rfl)) (vrs_nil))))))) (bs_ (bs_ (bs_ (bs_ br_nil))))))) ?_
   injection h with h; subst h
   exact ret1_step (v := (.agv [(vB p0.distinct), (.tre 10000001), (.tre 10000002), (.tre 10000003), (.tre 10000004), (vI p0.limit)])) (by kernel_rfl) (by kernel_rfl) ⟨by kernel_rfl, by kernel_rfl, by kernel_rfl, by kernel_rfl, by kernel_rfl, trivial⟩
 · intro F_sL7Copy_X_L0 F_sL7Copies_X OK_sL7Copy_X_L0 OK_sL7Copies_X p0 r h
   refine aof trsL7Copy_X ?_
   show avc Try.prog acsL7Copy_X (qsL7Copy_X _) ⟨[(0, (vGExpr p0))], []⟩
   delta acsL7Copy_X
   refine so ?_
   let a0 : St := ⟨[(2, (.ptr 2 0)), (1, (.ptr 1 0)), (0, (vGExpr p0))], [(2, [(vI 0), (vI 0), (vB false), (vI 0), (vI 0), (vS []), (vS []), (vS []), (.nil 10), (.nil 6)]), (1, bGExpr p0)]⟩
   refine st 2 a0 (nx (so ?_))
   let a1 : St := ⟨(3, (.ptr 3 0)) :: (5, (vGExpr p0)) :: a0.env, [(3, bGExpr p0), (2, [(vI 0), (vI 0), (vB false), (vI 0), (vI 0), (vS []), (vS []), (vS []), (.nil 10), (.nil 6)]), (1, bGExpr p0)]⟩
   refine st 3 a1 (nx (so ?_))
   let a2 : St := a1.p [(7, (.d (.sl 10 (p0.kids.map cGExpr)))), (6, (.ptr 1 8))]
   refine st 2 a2 ?_
   refine callg_step ⟨[], [], [], [], [], [], [(10000000, 40130000)], [], []⟩ (m := F_sL7Copies_X p0.kids) (S' := fun (y : (List GExpr)) => ⟨(8, (.tre 40130000)) :: a2.env, [(40130000, [(.trc 10 (y.map cGExpr))]), (3, bGExpr p0), (2, [(vI 0), (vI 0), (vB false), (vI 0), (vI 0), (vS []), (vS []), (vS []), (.nil 10), (.nil 6)]), (1, bGExpr p0)]⟩) h (OK_sL7Copies_X p0.kids) (by kernel_rfl) (by kernel_rfl) (by kernel_rfl) (by kernel_rfl) (fun y => by kernel_rfl) (fun y => by kernel_rfl) ?_
   clear h; intro y1 h
   let a3 : St := ⟨(9, (.ptr 3 8)) :: (8, (.tre 40130000)) :: a2.env, [(40130000, [(.trc 10 (y1.map cGExpr))]), (3, [(vI p0.kind), (vI p0.op), (vB p0.not_), (vI p0.value.kind), (vI p0.value.num), (vS p0.value.text), (vS p0.qual), (vS p0.name), (.tre 40130000), (.d (.sl 6 (p0.sub.map cGQuery)))]), (2, [(vI 0), (vI 0), (vB false), (vI 0), (vI 0), (vS []), (vS []), (vS []), (.nil 10), (.nil 6)]), (1, bGExpr p0)]⟩
   refine st 2 a3 (nx (so ?_))
   let a4 : St := ⟨(10, (.ptr 3 9)) :: a3.env, [(40130000, [(.trc 10 (y1.map cGExpr))]), (3, [(vI p0.kind), (vI p0.op), (vB p0.not_), (vI p0.value.kind), (vI p0.value.num), (vS p0.value.text), (vS p0.qual), (vS p0.name), (.tre 40130000), (.nil 6)]), (2, [(vI 0), (vI 0), (vB false), (vI 0), (vI 0), (vS []), (vS []), (vS []), (.nil 10), (.nil 6)]), (1, bGExpr p0)]⟩
   refine st 2 a4 (nx (si (so ?_)))
   let a5 : St := a4.p [(4, (vI 0))]
   refine st 1 a5 (nx (bi ?_))
   exact loop_go (s' := stsL7Copy_X_L0 p0 y1 0 ([] : List GQuery)) (tw [.rn [(40130000, 60025000)], .nb 3 9 60025001] (wr [] (es (es (es (es er_nil)))) (bs_ (bs_ (bs_ (bs_ (bs_ br_nil))))))) (OK_sL7Copy_X_L0 p0 y1 0 ([] : List GQuery) _ h)
 · intro F_sL7Copy_X_L0 F_sL7CopyQuery_X OK_sL7Copy_X_L0 OK_sL7CopyQuery_X p0 y1 x4 b60025001_0 r h
   delta acsL7Copy_X_L0
   refine loop_unroll (si (so ?_))
   let a6 : St := (stsL7Copy_X_L0 p0 y1 x4 b60025001_0).p [(13, (.d (.sl 6 (p0.sub.map cGQuery)))), (12, (.ptr 1 9)), (11, (vI x4))]
   refine st 3 a6 (ps (vI (ln p0.sub)) (vln (sz := 6) (l := p0.sub) (f := cGQuery)) ?_)
   let a7 : St := a6.p [(15, (vB (decide (x4 < (ln p0.sub))))), (14, (vI (ln p0.sub)))]
   refine st 1 a7 (nx ?_)
   refine cd h (fun h => ?_) fun h => ?_
   refine ki (xi (si (bi (dops_in ?_))))
   let a8 : St := a7.p [(22, (vI x4)), (21, (.d (.sl 6 (p0.sub.map cGQuery)))), (20, (.ptr 1 9)), (19, (.tre 60025001)), (18, (.ptr 3 9))]
   refine dsts_ok 5 (s' := a8) (by kernel_rfl) (dv_step (m := idx p0.sub x4) (v' := fun y => (.rp (oGQuery y))) h rfl rfl (fun y hy => via (l := p0.sub) (f := cGQuery) (g := oGQuery) (k := .i64) hy cGQuery_eq) ?_)
   clear h; intro y2 h
   let a9 : St := a8.p [(24, (vGQuery y2)), (23, (.rp (oGQuery y2)))]
   refine dsts_ok 1 (s' := a9) (by kernel_rfl) ?_
   refine dcallg_step ⟨[], [], [], [], [], [], [(10000001, 40470001), (10000002, 40470002), (10000003, 40470003), (10000004, 40470004)], [], []⟩ [] [] (m := F_sL7CopyQuery_X y2) (S' := fun (y : GQuery) => ⟨(25, (.agv [(vB y.distinct), (.tre 40470001), (.tre 40470002), (.tre 40470003), (.tre 40470004), (vI y.limit)])) :: a9.env, [(40470001, [(.trc 13 (y.items.map cGItem))]), (40470002, [(.trc 3 (y.from_.map cGSource))]), (40470003, [(.trc 10 (y.where_.map cGExpr))]), (40470004, [(.trc 11 (y.order.map cGSortKey))]), (1, bGExpr p0), (2, [(vI 0), (vI 0), (vB false), (vI 0), (vI 0), (vS []), (vS []), (vS []), (.nil 10), (.nil 6)]), (3, [(vI p0.kind), (vI p0.op), (vB p0.not_), (vI p0.value.kind), (vI p0.value.num), (vS p0.value.text), (vS p0.qual), (vS p0.name), (.tre 60025000), (.tre 60025001)]), (60025001, [(.trc 6 (b60025001_0.map cGQuery))]), (60025000, [(.trc 10 (y1.map cGExpr))])]⟩) h (OK_sL7CopyQuery_X y2) (by kernel_rfl) (by kernel_rfl) (by kernel_rfl) (by kernel_rfl) (fun y => by kernel_rfl) (fun y => by kernel_rfl) ?_
   clear h; intro y3 h
   refine dbslT_step (l := ([y3] : List GQuery)) (f := cGQuery) (g := oGQuery) [40470001, 40470002, 40470003, 40470004] (s' := ⟨(26, (.tre 26)) :: (25, (.agv [(vB y3.distinct), (.tre 40470001), (.tre 40470002), (.tre 40470003), (.tre 40470004), (vI y3.limit)])) :: a9.env, [(26, [(.trc 6 (([y3] : List GQuery).map cGQuery))]), (40470001, [.trd]), (40470002, [.trd]), (40470003, [.trd]), (40470004, [.trd]), (1, bGExpr p0), (2, [(vI 0), (vI 0), (vB false), (vI 0), (vI 0), (vS []), (vS []), (vS []), (.nil 10), (.nil 6)]), (3, [(vI p0.kind), (vI p0.op), (vB p0.not_), (vI p0.value.kind), (vI p0.value.num), (vS p0.value.text), (vS p0.qual), (vS p0.name), (.tre 60025000), (.tre 60025001)]), (60025001, [(.trc 6 (b60025001_0.map cGQuery))]), (60025000, [(.trc 10 (y1.map cGExpr))])]⟩) (by kernel_rfl) cGQuery_eq (by kernel_rfl) (by kernel_rfl) ?_
   refine dappTT_step (l := b60025001_0) (m := ([y3] : List GQuery)) (f := cGQuery) [60025001] [26] (S' := fun y => ⟨(27, (.tre 27)) :: (26, (.tre 26)) :: (25, (.agv [(vB y3.distinct), (.tre 40470001), (.tre 40470002), (.tre 40470003), (.tre 40470004), (vI y3.limit)])) :: a9.env, [(27, [(.trc 6 (y.map cGQuery))]), (26, [.trd]), (40470001, [.trd]), (40470002, [.trd]), (40470003, [.trd]), (40470004, [.trd]), (1, bGExpr p0), (2, [(vI 0), (vI 0), (vB false), (vI 0), (vI 0), (vS []), (vS []), (vS []), (.nil 10), (.nil 6)]), (3, [(vI p0.kind), (vI p0.op), (vB p0.not_), (vI p0.value.kind), (vI p0.value.num), (vS p0.value.text), (vS p0.qual), (vS p0.name), (.tre 60025000), (.tre 60025001)]), (60025001, [.trd]), (60025000, [(.trc 10 (y1.map cGExpr))])]⟩) h (by kernel_rfl) (by kernel_rfl) (by kernel_rfl) (by kernel_rfl) (fun y => by kernel_rfl) ?_
   clear h; intro y4 h
   let a10 : St := ⟨(28, (.ptr 3 9)) :: (27, (.tre 27)) :: (26, (.tre 26)) :: (25, (.agv [(vB y3.distinct), (.tre 40470001), (.tre 40470002), (.tre 40470003), (.tre 40470004), (vI y3.limit)])) :: a9.env, [(27, [(.trc 6 (y4.map cGQuery))]), (26, [.trd]), (40470001, [.trd]), (40470002, [.trd]), (40470003, [.trd]), (40470004, [.trd]), (1, bGExpr p0), (2, [(vI 0), (vI 0), (vB false), (vI 0), (vI 0), (vS []), (vS []), (vS []), (.nil 10), (.nil 6)]), (3, [(vI p0.kind), (vI p0.op), (vB p0.not_), (vI p0.value.kind), (vI p0.value.num), (vS p0.value.text), (vS p0.qual), (vS p0.name), (.tre 60025000), (.tre 27)]), (60025001, [.trd]), (60025000, [(.trc 10 (y1.map cGExpr))])]⟩
   refine dsts_ok 2 (s' := a10) (by kernel_rfl) (dnil_in (by kernel_rfl) (by kernel_rfl) (bn (xi (oi ?_))))
   let a11 : St := a10.p [(4, (vI (IntKind.wrap .i64 (x4 + 1)))), (17, (vI (IntKind.wrap .i64 (x4 + 1)))), (16, (vI x4))]
   refine st 3 a11 (ni ?_)
   exact loop_back (s' := stsL7Copy_X_L0 p0 y1 (IntKind.wrap .i64 (x4 + 1)) y4) (tw [.rn [(27, 60025001)]] (wr [] (es (es (es (es er_nil)))) (bs_ (bs_ (bs_ (bs_ (bs_ br_nil))))))) (OK_sL7Copy_X_L0 p0 y1 (IntKind.wrap .i64 (x4 + 1)) y4 _ h)
   refine ei (te (te (bh (xi (so ?_)))))
   let a12 : St := ⟨(29, (.agv [(vI p0.kind), (vI p0.op), (vB p0.not_), (vI p0.value.kind), (vI p0.value.num), (vS p0.value.text), (vS p0.qual), (vS p0.name), (.tre 60025000), (.tre 60025001)])) :: a7.env, [(1, bGExpr p0), (2, [(vI p0.kind), (vI p0.op), (vB p0.not_), (vI p0.value.kind), (vI p0.value.num), (vS p0.value.text), (vS p0.qual), (vS p0.name), (.tre 60025000), (.tre 60025001)]), (3, [(vI p0.kind), (vI p0.op), (vB p0.not_), (vI p0.value.kind), (vI p0.value.num), (vS p0.value.text), (vS p0.qual), (vS p0.name), (.tre 60025000), (.tre 60025001)]), (60025001, [(.trc 6 (b60025001_0.map cGQuery))]), (60025000, [(.trc 10 (y1.map cGExpr))])]⟩
   refine st 2 a12 (nx ?_)
   refine ret_wk (s' := ⟨[(2, (.ptr 2 0))], [(2, [(vI p0.kind), (vI p0.op), (vB p0.not_), (vI p0.value.kind), (vI p0.value.num), (vS p0.value.text), (vS p0.qual), (vS p0.name), (.tre 10000008), (.tre 10000009)]), (10000009, [(.trc 6 (b60025001_0.map cGQuery))]), (10000008, [(.trc 10 (y1.map cGExpr))])]⟩) (tw [.rn [(60025000, 10000008), (60025001, 10000009)]] (wr [] (es er_nil) (br_cons (c0 := [(vI p0.kind), (vI p0.op), (vB p0.not_), (vI p0.value.kind), (vI p0.value.num), (vS p0.value.text), (vS p0.qual), (vS p0.name), (.tre 10000008), (.tre 10000009)]) (by kernel_rfl) (vrs_cons (vr_same (by kernel_rfl) (by kernel_rfl)) (vrs_cons (vr_same (by kernel_rfl) (by kernel_rfl)) (vrs_cons (vr_same (by kernel_rfl) (by kernel_rfl)) (vrs_cons (vr_same (by kernel_rfl) (by kernel_rfl)) (vrs_cons (vr_same (by kernel_rfl) (by kernel_rfl)) (vrs_cons (vr_same (by kernel_rfl) (by kernel_rfl)) (vrs_cons (vr_same (by kernel_rfl) (by kernel_rfl)) (vrs_cons (vr_same (by kernel_rfl) (by kernel_rfl)) (vrs_cons (vr_same (by kernel_rfl) (by kernel_rfl)) (vrs_cons (vr_same (by kernel_rfl) (by kernel_rfl)) (vrs_nil))))))))))) (bs_ (bs_ br_nil))))) ?_
   injection h with h; subst h
   exact ret1_step (v := (.agv [(vI p0.kind), (vI p0.op), (vB p0.not_), (vI p0.value.kind), (vI p0.value.num), (vS p0.value.text), (vS p0.qual), (vS p0.name), (.tre 10000008), (.tre 10000009)])) (by kernel_rfl) (by kernel_rfl) ⟨by kernel_rfl, by kernel_rfl, by kernel_rfl, trivial⟩
 · intro F_sL7CopyQuery_X_L0 F_sL7Copies_X OK_sL7CopyQuery_X_L0 OK_sL7Copies_X p0 r h
   refine aof trsL7CopyQuery_X ?_
   show avc Try.prog acsL7CopyQuery_X (qsL7CopyQuery_X _) ⟨[(0, (vGQuery p0))], []⟩
   delta acsL7CopyQuery_X
   refine so ?_
   let a0 : St := ⟨[(2, (.ptr 2 0)), (1, (.ptr 1 0)), (0, (vGQuery p0))], [(2, [(vB false), (.nil 13), (.nil 3), (.nil 10), (.nil 11), (vI 0)]), (1, bGQuery p0)]⟩
   refine st 2 a0 (nx (si (dops_in ?_)))
   let a1 : St := a0.p [(11, (.d (.sl 10 (p0.where_.map cGExpr)))), (10, (.ptr 1 3)), (9, (vB p0.distinct)), (8, (.ptr 1 0))]
   refine dsts_ok 4 (s' := a1) (by kernel_rfl) ?_
   refine dcallg_step ⟨[], [], [], [], [], [], [(10000000, 40100000)], [], []⟩ [] [] (m := F_sL7Copies_X p0.where_) (S' := fun (y : (List GExpr)) => ⟨(12, (.tre 40100000)) :: a1.env, [(40100000, [(.trc 10 (y.map cGExpr))]), (2, [(vB false), (.nil 13), (.nil 3), (.nil 10), (.nil 11), (vI 0)]), (1, bGQuery p0)]⟩) h (OK_sL7Copies_X p0.where_) (by kernel_rfl) (by kernel_rfl) (by kernel_rfl) (by kernel_rfl) (fun y => by kernel_rfl) (fun y => by kernel_rfl) ?_
   clear h; intro y1 h
   let a2 : St := ⟨(14, (vI p0.limit)) :: (13, (.ptr 1 5)) :: (12, (.tre 40100000)) :: a1.env, [(40100000, [(.trc 10 (y1.map cGExpr))]), (2, [(vB false), (.nil 13), (.nil 3), (.nil 10), (.nil 11), (vI 0)]), (1, bGQuery p0)]⟩
   refine dsts_ok 2 (s' := a2) (by kernel_rfl) (dbldv_step (c := [(vB p0.distinct), (.nil 13), (.nil 3), (.tre 40100000), (.nil 11), (vI p0.limit)]) (s' := ⟨(15, (.agv [(vB p0.distinct), (.nil 13), (.nil 3), (.tre 40100000), (.nil 11), (vI p0.limit)])) :: a2.env, a2.bx⟩) (by kernel_rfl) (by kernel_rfl) (by kernel_rfl) ?_)
   let a3 : St := ⟨(3, (.ptr 3 0)) :: (15, (.agv [(vB p0.distinct), (.nil 13), (.nil 3), (.tre 40100000), (.nil 11), (vI p0.limit)])) :: a2.env, [(3, [(vB p0.distinct), (.nil 13), (.nil 3), (.tre 40100000), (.nil 11), (vI p0.limit)]), (40100000, [(.trc 10 (y1.map cGExpr))]), (2, [(vB false), (.nil 13), (.nil 3), (.nil 10), (.nil 11), (vI 0)]), (1, bGQuery p0)]⟩
   refine dsts_ok 2 (s' := a3) (by kernel_rfl) (dnil_in (by kernel_rfl) (by kernel_rfl) (xi (si (so ?_))))
   let a4 : St := a3.p [(4, (vI 0))]
   refine st 1 a4 (nx (bi ?_))
   exact loop_go (s' := stsL7CopyQuery_X_L0 p0 y1 0 ([] : List GItem)) (tw [.rn [(40100000, 60021001)], .nb 3 1 60021000] (wr [] (es (es (es (es er_nil)))) (bs_ (bs_ (bs_ (bs_ (bs_ br_nil))))))) (OK_sL7CopyQuery_X_L0 p0 y1 0 ([] : List GItem) _ h)
 · intro F_sL7Copy_X F_sL7CopyQuery_X_L0 F_sL7CopyQuery_X_L1 OK_sL7Copy_X OK_sL7CopyQuery_X_L0 OK_sL7CopyQuery_X_L1 p0 y1 x4 b60021000_0 r h
   delta acsL7CopyQuery_X_L0
   refine loop_unroll (si (so ?_))
   let a5 : St := (stsL7CopyQuery_X_L0 p0 y1 x4 b60021000_0).p [(18, (.d (.sl 13 (p0.items.map cGItem)))), (17, (.ptr 1 1)), (16, (vI x4))]
   refine st 3 a5 (ps (vI (ln p0.items)) (vln (sz := 13) (l := p0.items) (f := cGItem)) ?_)
   let a6 : St := a5.p [(20, (vB (decide (x4 < (ln p0.items))))), (19, (vI (ln p0.items)))]
   refine st 1 a6 (nx ?_)
   refine cd h (fun h => ?_) fun h => ?_
   refine ki (xi (si (bi (so ?_))))
   let a7 : St := a6.p [(25, (vI x4)), (24, (.d (.sl 13 (p0.items.map cGItem)))), (23, (.ptr 1 1))]
   refine st 3 a7 (vs (fun (y : GItem) => (.rp (oGItem y))) h (fun y hy => via (l := p0.items) (f := cGItem) (g := oGItem) (k := .i64) hy cGItem_eq) fun y2 h => ?_)
   let a8 : St := ⟨(5, (.ptr 5 0)) :: (27, (vGItem y2)) :: (26, (.rp (oGItem y2))) :: a7.env, [(5, bGItem y2), (1, bGQuery p0), (2, [(vB false), (.nil 13), (.nil 3), (.nil 10), (.nil 11), (vI 0)]), (3, [(vB p0.distinct), (.tre 60021000), (.nil 3), (.tre 60021001), (.nil 11), (vI p0.limit)]), (60021000, [(.trc 13 (b60021000_0.map cGItem))]), (60021001, [(.trc 10 (y1.map cGExpr))])]⟩
   refine st 3 a8 (nx (so ?_))
   let a9 : St := a8.p [(29, (vGExpr y2.expr)), (28, (.ptr 5 2))]
   refine st 2 a9 ?_
   refine callg_step ⟨[], [], [], [], [], [], [(10000008, 40480008), (10000009, 40480009)], [], []⟩ (m := F_sL7Copy_X y2.expr) (S' := fun (y : GExpr) => ⟨(30, (.agv [(vI y.kind), (vI y.op), (vB y.not_), (vI y.value.kind), (vI y.value.num), (vS y.value.text), (vS y.qual), (vS y.name), (.tre 40480008), (.tre 40480009)])) :: a9.env, [(40480008, [(.trc 10 (y.kids.map cGExpr))]), (40480009, [(.trc 6 (y.sub.map cGQuery))]), (5, bGItem y2), (1, bGQuery p0), (2, [(vB false), (.nil 13), (.nil 3), (.nil 10), (.nil 11), (vI 0)]), (3, [(vB p0.distinct), (.tre 60021000), (.nil 3), (.tre 60021001), (.nil 11), (vI p0.limit)]), (60021000, [(.trc 13 (b60021000_0.map cGItem))]), (60021001, [(.trc 10 (y1.map cGExpr))])]⟩) h (OK_sL7Copy_X y2.expr) (by kernel_rfl) (by kernel_rfl) (by kernel_rfl) (by kernel_rfl) (fun y => by kernel_rfl) (fun y => by kernel_rfl) ?_
   clear h; intro y3 h
   let a10 : St := ⟨(31, (.ptr 5 2)) :: (30, (.agv [(vI y3.kind), (vI y3.op), (vB y3.not_), (vI y3.value.kind), (vI y3.value.num), (vS y3.value.text), (vS y3.qual), (vS y3.name), (.tre 40480008), (.tre 40480009)])) :: a9.env, [(40480008, [(.trc 10 (y3.kids.map cGExpr))]), (40480009, [(.trc 6 (y3.sub.map cGQuery))]), (5, [(vB y2.star), (vS y2.qual), (vI y3.kind), (vI y3.op), (vB y3.not_), (vI y3.value.kind), (vI y3.value.num), (vS y3.value.text), (vS y3.qual), (vS y3.name), (.tre 40480008), (.tre 40480009), (vS y2.as_)]), (1, bGQuery p0), (2, [(vB false), (.nil 13), (.nil 3), (.nil 10), (.nil 11), (vI 0)]), (3, [(vB p0.distinct), (.tre 60021000), (.nil 3), (.tre 60021001), (.nil 11), (vI p0.limit)]), (60021000, [(.trc 13 (b60021000_0.map cGItem))]), (60021001, [(.trc 10 (y1.map cGExpr))])]⟩
   refine st 2 a10 (nx (oi ?_))
   let a11 : St := a10.p [(34, (.agv [(vB y2.star), (vS y2.qual), (vI y3.kind), (vI y3.op), (vB y3.not_), (vI y3.value.kind), (vI y3.value.num), (vS y3.value.text), (vS y3.qual), (vS y3.name), (.tre 40480008), (.tre 40480009), (vS y2.as_)])), (33, (.tre 60021000)), (32, (.ptr 3 1))]
   refine st 3 a11 ?_
   refine bslT_step (l := ([(GItem.mk y2.star y2.qual y3 y2.as_)] : List GItem)) (f := cGItem) (g := oGItem) [40480008, 40480009] (s' := ⟨(35, (.tre 35)) :: a11.env, [(35, [(.trc 13 (([(GItem.mk y2.star y2.qual y3 y2.as_)] : List GItem).map cGItem))]), (40480008, [.trd]), (40480009, [.trd]), (5, [(vB y2.star), (vS y2.qual), (vI y3.kind), (vI y3.op), (vB y3.not_), (vI y3.value.kind), (vI y3.value.num), (vS y3.value.text), (vS y3.qual), (vS y3.name), (.tre 40480008), (.tre 40480009), (vS y2.as_)]), (1, bGQuery p0), (2, [(vB false), (.nil 13), (.nil 3), (.nil 10), (.nil 11), (vI 0)]), (3, [(vB p0.distinct), (.tre 60021000), (.nil 3), (.tre 60021001), (.nil 11), (vI p0.limit)]), (60021000, [(.trc 13 (b60021000_0.map cGItem))]), (60021001, [(.trc 10 (y1.map cGExpr))])]⟩) (by kernel_rfl) cGItem_eq (by kernel_rfl) (by kernel_rfl) ?_
   refine appTT_step (l := b60021000_0) (m := ([(GItem.mk y2.star y2.qual y3 y2.as_)] : List GItem)) (f := cGItem) [60021000] [35] (S' := fun y => ⟨(36, (.tre 36)) :: (35, (.tre 35)) :: a11.env, [(36, [(.trc 13 (y.map cGItem))]), (35, [.trd]), (40480008, [.trd]), (40480009, [.trd]), (5, [(vB y2.star), (vS y2.qual), (vI y3.kind), (vI y3.op), (vB y3.not_), (vI y3.value.kind), (vI y3.value.num), (vS y3.value.text), (vS y3.qual), (vS y3.name), (.tre 40480008), (.tre 40480009), (vS y2.as_)]), (1, bGQuery p0), (2, [(vB false), (.nil 13), (.nil 3), (.nil 10), (.nil 11), (vI 0)]), (3, [(vB p0.distinct), (.tre 60021000), (.nil 3), (.tre 60021001), (.nil 11), (vI p0.limit)]), (60021000, [.trd]), (60021001, [(.trc 10 (y1.map cGExpr))])]⟩) h (by kernel_rfl) (by kernel_rfl) (by kernel_rfl) (by kernel_rfl) (fun y => by kernel_rfl) ?_
   clear h; intro y4 h
   let a12 : St := ⟨(37, (.ptr 3 1)) :: (36, (.tre 36)) :: (35, (.tre 35)) :: a11.env, [(36, [(.trc 13 (y4.map cGItem))]), (35, [.trd]), (40480008, [.trd]), (40480009, [.trd]), (5, [(vB y2.star), (vS y2.qual), (vI y3.kind), (vI y3.op), (vB y3.not_), (vI y3.value.kind), (vI y3.value.num), (vS y3.value.text), (vS y3.qual), (vS y3.name), (.tre 40480008), (.tre 40480009), (vS y2.as_)]), (1, bGQuery p0), (2, [(vB false), (.nil 13), (.nil 3), (.nil 10), (.nil 11), (vI 0)]), (3, [(vB p0.distinct), (.tre 36), (.nil 3), (.tre 60021001), (.nil 11), (vI p0.limit)]), (60021000, [.trd]), (60021001, [(.trc 10 (y1.map cGExpr))])]⟩
   refine st 2 a12 (ni (bn (xi (oi ?_))))
   let a13 : St := a12.p [(4, (vI (IntKind.wrap .i64 (x4 + 1)))), (22, (vI (IntKind.wrap .i64 (x4 + 1)))), (21, (vI x4))]
   refine st 3 a13 (ni ?_)
   exact loop_back (s' := stsL7CopyQuery_X_L0 p0 y1 (IntKind.wrap .i64 (x4 + 1)) y4) (tw [.rn [(36, 60021000)]] (wr [] (es (es (es (es er_nil)))) (bs_ (bs_ (bs_ (bs_ (bs_ br_nil))))))) (OK_sL7CopyQuery_X_L0 p0 y1 (IntKind.wrap .i64 (x4 + 1)) y4 _ h)
   refine ei (te (te (bh (xi (si (so ?_))))))
   let a14 : St := a6.p [(6, (vI 0))]
   refine st 1 a14 (nx (bi ?_))
   exact loop_go (s' := stsL7CopyQuery_X_L1 p0 b60021000_0 y1 0 ([] : List GSource)) (tw [.rn [(60021000, 60068000), (60021001, 60068002)], .nb 3 2 60068001] (wr [] (es (es (es (es er_nil)))) (bs_ (bs_ (bs_ (bs_ (bs_ (bs_ br_nil)))))))) (OK_sL7CopyQuery_X_L1 p0 b60021000_0 y1 0 ([] : List GSource) _ h)
 · intro F_sL7CopyQuery_X_L2 F_sL7CopyQuery_X_L1 F_sL7Copies_X OK_sL7CopyQuery_X_L2 OK_sL7CopyQuery_X_L1 OK_sL7Copies_X p0 b60021000_0 y1 x6 b60068001_0 r h
   delta acsL7CopyQuery_X_L1
   refine loop_unroll (si (so ?_))
   let a15 : St := (stsL7CopyQuery_X_L1 p0 b60021000_0 y1 x6 b60068001_0).p [(40, (.d (.sl 3 (p0.from_.map cGSource)))), (39, (.ptr 1 2)), (38, (vI x6))]
   refine st 3 a15 (ps (vI (ln p0.from_)) (vln (sz := 3) (l := p0.from_) (f := cGSource)) ?_)
   let a16 : St := a15.p [(42, (vB (decide (x6 < (ln p0.from_))))), (41, (vI (ln p0.from_)))]
   refine st 1 a16 (nx ?_)
   refine cd h (fun h => ?_) fun h => ?_
   refine ki (xi (si (bi (dops_in ?_))))
   let a17 : St := a16.p [(49, (vI x6)), (48, (.d (.sl 3 (p0.from_.map cGSource)))), (47, (.ptr 1 2)), (46, (.tre 60068001)), (45, (.ptr 3 2))]
   refine dsts_ok 5 (s' := a17) (by kernel_rfl) (dv_step (m := idx p0.from_ x6) (v' := fun y => (.rp (oGSource y))) h rfl rfl (fun y hy => via (l := p0.from_) (f := cGSource) (g := oGSource) (k := .i64) hy cGSource_eq) ?_)
   clear h; intro y5 h
   let a18 : St := a17.p [(55, (vI x6)), (54, (.d (.sl 3 (p0.from_.map cGSource)))), (53, (.ptr 1 2)), (52, (vS y5.table)), (51, (.rp [(.s (bs y5.table)), (.s (bs y5.as_)), (.sl 10 (y5.on_.map cGExpr))])), (50, (.rp (oGSource y5)))]
   refine dsts_ok 5 (s' := a18) (by kernel_rfl) (dv_step (m := idx p0.from_ x6) (v' := fun y => (.rp (oGSource y))) h rfl rfl (fun y hy => via (l := p0.from_) (f := cGSource) (g := oGSource) (k := .i64) hy cGSource_eq) ?_)
   clear h; intro y6 h
   let a19 : St := a18.p [(61, (vI x6)), (60, (.d (.sl 3 (p0.from_.map cGSource)))), (59, (.ptr 1 2)), (58, (vS y6.as_)), (57, (.rp [(.s (bs y6.as_)), (.sl 10 (y6.on_.map cGExpr))])), (56, (.rp (oGSource y6)))]
   refine dsts_ok 5 (s' := a19) (by kernel_rfl) (dv_step (m := idx p0.from_ x6) (v' := fun y => (.rp (oGSource y))) h rfl rfl (fun y hy => via (l := p0.from_) (f := cGSource) (g := oGSource) (k := .i64) hy cGSource_eq) ?_)
   clear h; intro y7 h
   let a20 : St := a19.p [(64, (.d (.sl 10 (y7.on_.map cGExpr)))), (63, (.rp [(.sl 10 (y7.on_.map cGExpr))])), (62, (.rp (oGSource y7)))]
   refine dsts_ok 2 (s' := a20) (by kernel_rfl) ?_
   refine dcallg_step ⟨[], [], [], [], [], [], [(10000000, 41030000)], [], []⟩ [] [] (m := F_sL7Copies_X y7.on_) (S' := fun (y : (List GExpr)) => ⟨(65, (.tre 41030000)) :: a20.env, [(41030000, [(.trc 10 (y.map cGExpr))]), (1, bGQuery p0), (2, [(vB false), (.nil 13), (.nil 3), (.nil 10), (.nil 11), (vI 0)]), (3, [(vB p0.distinct), (.tre 60068000), (.tre 60068001), (.tre 60068002), (.nil 11), (vI p0.limit)]), (60068001, [(.trc 3 (b60068001_0.map cGSource))]), (60068000, [(.trc 13 (b60021000_0.map cGItem))]), (60068002, [(.trc 10 (y1.map cGExpr))])]⟩) h (OK_sL7Copies_X y7.on_) (by kernel_rfl) (by kernel_rfl) (by kernel_rfl) (by kernel_rfl) (fun y => by kernel_rfl) (fun y => by kernel_rfl) ?_
   clear h; intro y8 h
   refine dbldv_step (c := [(vS y5.table), (vS y6.as_), (.tre 41030000)]) (s' := ⟨(66, (.agv [(vS y5.table), (vS y6.as_), (.tre 41030000)])) :: (65, (.tre 41030000)) :: a20.env, [(41030000, [(.trc 10 (y8.map cGExpr))]), (1, bGQuery p0), (2, [(vB false), (.nil 13), (.nil 3), (.nil 10), (.nil 11), (vI 0)]), (3, [(vB p0.distinct), (.tre 60068000), (.tre 60068001), (.tre 60068002), (.nil 11), (vI p0.limit)]), (60068001, [(.trc 3 (b60068001_0.map cGSource))]), (60068000, [(.trc 13 (b60021000_0.map cGItem))]), (60068002, [(.trc 10 (y1.map cGExpr))])]⟩) (by kernel_rfl) (by kernel_rfl) (by kernel_rfl) ?_
   refine dbslT_step (l := ([(GSource.mk y5.table y6.as_ y8)] : List GSource)) (f := cGSource) (g := oGSource) [41030000] (s' := ⟨(67, (.tre 67)) :: (66, (.agv [(vS y5.table), (vS y6.as_), (.tre 41030000)])) :: (65, (.tre 41030000)) :: a20.env, [(67, [(.trc 3 (([(GSource.mk y5.table y6.as_ y8)] : List GSource).map cGSource))]), (41030000, [.trd]), (1, bGQuery p0), (2, [(vB false), (.nil 13), (.nil 3), (.nil 10), (.nil 11), (vI 0)]), (3, [(vB p0.distinct), (.tre 60068000), (.tre 60068001), (.tre 60068002), (.nil 11), (vI p0.limit)]), (60068001, [(.trc 3 (b60068001_0.map cGSource))]), (60068000, [(.trc 13 (b60021000_0.map cGItem))]), (60068002, [(.trc 10 (y1.map cGExpr))])]⟩) (by kernel_rfl) cGSource_eq (by kernel_rfl) (by kernel_rfl) ?_
   refine dappTT_step (l := b60068001_0) (m := ([(GSource.mk y5.table y6.as_ y8)] : List GSource)) (f := cGSource) [60068001] [67] (S' := fun y => ⟨(68, (.tre 68)) :: (67, (.tre 67)) :: (66, (.agv [(vS y5.table), (vS y6.as_), (.tre 41030000)])) :: (65, (.tre 41030000)) :: a20.env, [(68, [(.trc 3 (y.map cGSource))]), (67, [.trd]), (41030000, [.trd]), (1, bGQuery p0), (2, [(vB false), (.nil 13), (.nil 3), (.nil 10), (.nil 11), (vI 0)]), (3, [(vB p0.distinct), (.tre 60068000), (.tre 60068001), (.tre 60068002), (.nil 11), (vI p0.limit)]), (60068001, [.trd]), (60068000, [(.trc 13 (b60021000_0.map cGItem))]), (60068002, [(.trc 10 (y1.map cGExpr))])]⟩) h (by kernel_rfl) (by kernel_rfl) (by kernel_rfl) (by kernel_rfl) (fun y => by kernel_rfl) ?_
   clear h; intro y9 h
   let a21 : St := ⟨(69, (.ptr 3 2)) :: (68, (.tre 68)) :: (67, (.tre 67)) :: (66, (.agv [(vS y5.table), (vS y6.as_), (.tre 41030000)])) :: (65, (.tre 41030000)) :: a20.env, [(68, [(.trc 3 (y9.map cGSource))]), (67, [.trd]), (41030000, [.trd]), (1, bGQuery p0), (2, [(vB false), (.nil 13), (.nil 3), (.nil 10), (.nil 11), (vI 0)]), (3, [(vB p0.distinct), (.tre 60068000), (.tre 68), (.tre 60068002), (.nil 11), (vI p0.limit)]), (60068001, [.trd]), (60068000, [(.trc 13 (b60021000_0.map cGItem))]), (60068002, [(.trc 10 (y1.map cGExpr))])]⟩
   refine dsts_ok 2 (s' := a21) (by kernel_rfl) (dnil_in (by kernel_rfl) (by kernel_rfl) (bn (xi (oi ?_))))
   let a22 : St := a21.p [(6, (vI (IntKind.wrap .i64 (x6 + 1)))), (44, (vI (IntKind.wrap .i64 (x6 + 1)))), (43, (vI x6))]
   refine st 3 a22 (ni ?_)
   exact loop_back (s' := stsL7CopyQuery_X_L1 p0 b60021000_0 y1 (IntKind.wrap .i64 (x6 + 1)) y9) (tw [.rn [(68, 60068001)]] (wr [] (es (es (es (es er_nil)))) (bs_ (bs_ (bs_ (bs_ (bs_ (bs_ br_nil)))))))) (OK_sL7CopyQuery_X_L1 p0 b60021000_0 y1 (IntKind.wrap .i64 (x6 + 1)) y9 _ h)
   refine ei (te (te (bh (xi (si (so ?_))))))
   let a23 : St := a16.p [(7, (vI 0))]
   refine st 1 a23 (nx (bi ?_))
   exact loop_go (s' := stsL7CopyQuery_X_L2 p0 b60068001_0 b60021000_0 y1 0 ([] : List GSortKey)) (tw [.rn [(60068000, 60118000), (60068001, 60118001), (60068002, 60118002)], .nb 3 4 60118003] (wr [] (es (es (es (es er_nil)))) (bs_ (bs_ (bs_ (bs_ (bs_ (bs_ (bs_ br_nil))))))))) (OK_sL7CopyQuery_X_L2 p0 b60068001_0 b60021000_0 y1 0 ([] : List GSortKey) _ h)
 · intro F_sL7Copies_X_L0 OK_sL7Copies_X_L0 p0 r h
   refine aof trsL7Copies_X ?_
   show avc Try.prog acsL7Copies_X (qsL7Copies_X _) ⟨[(0, (.d (.sl 10 (p0.map cGExpr))))], []⟩
   delta acsL7Copies_X
   refine so ?_
   let a0 : St := ⟨[(2, (.nil 10)), (0, (.d (.sl 10 (p0.map cGExpr))))], []⟩
   refine st 1 a0 (nx (so (bslT_step (l := ([] : List GExpr)) (f := cGExpr) (g := oGExpr) [] (s' := ⟨(5, (.tre 5)) :: a0.env, [(5, [(.trc 10 (([] : List GExpr).map cGExpr))])]⟩) (by kernel_rfl) cGExpr_eq (by kernel_rfl) (by kernel_rfl) ?_)))
   let a1 : St := ⟨(3, (.tre 5)) :: (5, (.tre 5)) :: a0.env, [(5, [(.trc 10 (([] : List GExpr).map cGExpr))])]⟩
   refine st 1 a1 (nx (si (so ?_)))
   let a2 : St := a1.p [(4, (vI 0))]
   exact st 1 a2 (nx (bi (loop_go (s' := stsL7Copies_X_L0 p0 0 ([] : List GExpr)) (tw [.rn [(5, 60012000)]] (wr [] (es (es (es er_nil))) (bs_ br_nil))) (OK_sL7Copies_X_L0 p0 0 ([] : List GExpr) _ h))))
 · intro F_sL7Copy_X F_sL7Copies_X_L0 OK_sL7Copy_X OK_sL7Copies_X_L0 p0 x4 b60012000_0 r h
   delta acsL7Copies_X_L0
   refine loop_unroll (si (so ?_))
   let a3 : St := (stsL7Copies_X_L0 p0 x4 b60012000_0).p [(7, (.d (.sl 10 (p0.map cGExpr)))), (6, (vI x4))]
   refine st 2 a3 (ps (vI (ln p0)) (vln (sz := 10) (l := p0) (f := cGExpr)) ?_)
   let a4 : St := a3.p [(9, (vB (decide (x4 < (ln p0))))), (8, (vI (ln p0)))]
   refine st 1 a4 (nx ?_)
   refine cd h (fun h => ?_) fun h => ?_
   refine ki (xi (si (bi (oi ?_))))
   let a5 : St := a4.p [(14, (vI x4)), (13, (.d (.sl 10 (p0.map cGExpr)))), (12, (.tre 60012000))]
   refine st 3 a5 (vs (fun (y : GExpr) => (.rp (oGExpr y))) h (fun y hy => via (l := p0) (f := cGExpr) (g := oGExpr) (k := .i64) hy cGExpr_eq) fun y1 h => ?_)
   let a6 : St := a5.p [(16, (vGExpr y1)), (15, (.rp (oGExpr y1)))]
   refine st 1 a6 ?_
   refine callg_step ⟨[], [], [], [], [], [], [(10000008, 40310008), (10000009, 40310009)], [], []⟩ (m := F_sL7Copy_X y1) (S' := fun (y : GExpr) => ⟨(17, (.agv [(vI y.kind), (vI y.op), (vB y.not_), (vI y.value.kind), (vI y.value.num), (vS y.value.text), (vS y.qual), (vS y.name), (.tre 40310008), (.tre 40310009)])) :: a6.env, [(40310008, [(.trc 10 (y.kids.map cGExpr))]), (40310009, [(.trc 6 (y.sub.map cGQuery))]), (60012000, [(.trc 10 (b60012000_0.map cGExpr))])]⟩) h (OK_sL7Copy_X y1) (by kernel_rfl) (by kernel_rfl) (by kernel_rfl) (by kernel_rfl) (fun y => by kernel_rfl) (fun y => by kernel_rfl) ?_
   clear h; intro y2 h
   refine bslT_step (l := ([y2] : List GExpr)) (f := cGExpr) (g := oGExpr) [40310008, 40310009] (s' := ⟨(18, (.tre 18)) :: (17, (.agv [(vI y2.kind), (vI y2.op), (vB y2.not_), (vI y2.value.kind), (vI y2.value.num), (vS y2.value.text), (vS y2.qual), (vS y2.name), (.tre 40310008), (.tre 40310009)])) :: a6.env, [(18, [(.trc 10 (([y2] : List GExpr).map cGExpr))]), (40310008, [.trd]), (40310009, [.trd]), (60012000, [(.trc 10 (b60012000_0.map cGExpr))])]⟩) (by kernel_rfl) cGExpr_eq (by kernel_rfl) (by kernel_rfl) ?_
   refine appTT_step (l := b60012000_0) (m := ([y2] : List GExpr)) (f := cGExpr) [60012000] [18] (S' := fun y => ⟨(19, (.tre 19)) :: (18, (.tre 18)) :: (17, (.agv [(vI y2.kind), (vI y2.op), (vB y2.not_), (vI y2.value.kind), (vI y2.value.num), (vS y2.value.text), (vS y2.qual), (vS y2.name), (.tre 40310008), (.tre 40310009)])) :: a6.env, [(19, [(.trc 10 (y.map cGExpr))]), (18, [.trd]), (40310008, [.trd]), (40310009, [.trd]), (60012000, [.trd])]⟩) h (by kernel_rfl) (by kernel_rfl) (by kernel_rfl) (by kernel_rfl) (fun y => by kernel_rfl) ?_
   clear h; intro y3 h
   let a7 : St := ⟨(3, (.tre 19)) :: (19, (.tre 19)) :: (18, (.tre 18)) :: (17, (.agv [(vI y2.kind), (vI y2.op), (vB y2.not_), (vI y2.value.kind), (vI y2.value.num), (vS y2.value.text), (vS y2.qual), (vS y2.name), (.tre 40310008), (.tre 40310009)])) :: a6.env, [(19, [(.trc 10 (y3.map cGExpr))]), (18, [.trd]), (40310008, [.trd]), (40310009, [.trd]), (60012000, [.trd])]⟩
   refine st 1 a7 (ni (bn (xi (oi ?_))))
   let a8 : St := a7.p [(4, (vI (IntKind.wrap .i64 (x4 + 1)))), (11, (vI (IntKind.wrap .i64 (x4 + 1)))), (10, (vI x4))]
   exact st 3 a8 (ni (loop_back (s' := stsL7Copies_X_L0 p0 (IntKind.wrap .i64 (x4 + 1)) y3) (tw [.rn [(19, 60012000)]] (wr [] (es (es (es er_nil))) (bs_ br_nil))) (OK_sL7Copies_X_L0 p0 (IntKind.wrap .i64 (x4 + 1)) y3 _ h)))
   refine ei (te (te (bh (xi (so ?_)))))
   let a9 : St := a4.p [(2, (.tre 60012000)), (20, (.tre 60012000))]
   refine st 2 a9 (nx (ret_wk (s' := ⟨[(2, (.tre 10000000))], [(10000000, [(.trc 10 (b60012000_0.map cGExpr))])]⟩) (tw [.rn [(60012000, 10000000)]] (wr [] (es er_nil) (bs_ br_nil))) ?_))
   injection h with h; subst h
   exact ret1_step (v := (.tre 10000000)) (by kernel_rfl) (by kernel_rfl) ⟨by kernel_rfl, by kernel_rfl, trivial⟩
theorem OK_sL7CopyQuery_X_L2 (p0 : GQuery) (b60068001_0 : (List GSource)) (b60021000_0 : (List GItem)) (y1 : (List GExpr)) (x7 : Int) (b60118003_0 : (List GSortKey)) (r : GQuery) (h : sL7CopyQuery_X_L2 p0 b60068001_0 b60021000_0 y1 x7 b60118003_0 = some r) : avc Try.prog acsL7CopyQuery_X_L2 (qsL7CopyQuery_X_5 r) (stsL7CopyQuery_X_L2 p0 b60068001_0 b60021000_0 y1 x7 b60118003_0) := (OKs_sL7CopyQuery_X_L2).1 p0 b60068001_0 b60021000_0 y1 x7 b60118003_0 r h
theorem OK_sL7Copy_X (p0 : GExpr) : FOkB Try.prog 92 [(vGExpr p0)] [] (fun (y : GExpr) => (.agv [(vI y.kind), (vI y.op), (vB y.not_), (vI y.value.kind), (vI y.value.num), (vS y.value.text), (vS y.qual), (vS y.name), (.tre 10000008), (.tre 10000009)])) (fun (y : GExpr) => [(10000008, [(.trc 10 (y.kids.map cGExpr))]), (10000009, [(.trc 6 (y.sub.map cGQuery))])]) (sL7Copy_X p0) := fun r h => (OKs_sL7CopyQuery_X_L2).2.1 p0 r h
theorem OK_sL7Copy_X_L0 (p0 : GExpr) (y1 : (List GExpr)) (x4 : Int) (b60025001_0 : (List GQuery)) (r : GExpr) (h : sL7Copy_X_L0 p0 y1 x4 b60025001_0 = some r) : avc Try.prog acsL7Copy_X_L0 (qsL7Copy_X_1 r) (stsL7Copy_X_L0 p0 y1 x4 b60025001_0) := (OKs_sL7CopyQuery_X_L2).2.2.1 p0 y1 x4 b60025001_0 r h
theorem OK_sL7CopyQuery_X (p0 : GQuery) : FOkB Try.prog 155 [(vGQuery p0)] [] (fun (y : GQuery) => (.agv [(vB y.distinct), (.tre 10000001), (.tre 10000002), (.tre 10000003), (.tre 10000004), (vI y.limit)])) (fun (y : GQuery) => [(10000001, [(.trc 13 (y.items.map cGItem))]), (10000002, [(.trc 3 (y.from_.map cGSource))]), (10000003, [(.trc 10 (y.where_.map cGExpr))]), (10000004, [(.trc 11 (y.order.map cGSortKey))])]) (sL7CopyQuery_X p0) := fun r h => (OKs_sL7CopyQuery_X_L2).2.2.2.1 p0 r h
theorem OK_sL7CopyQuery_X_L0 (p0 : GQuery) (y1 : (List GExpr)) (x4 : Int) (b60021000_0 : (List GItem)) (r : GQuery) (h : sL7CopyQuery_X_L0 p0 y1 x4 b60021000_0 = some r) : avc Try.prog acsL7CopyQuery_X_L0 (qsL7CopyQuery_X_1 r) (stsL7CopyQuery_X_L0 p0 y1 x4 b60021000_0) := (OKs_sL7CopyQuery_X_L2).2.2.2.2.1 p0 y1 x4 b60021000_0 r h
theorem OK_sL7CopyQuery_X_L1 (p0 : GQuery) (b60021000_0 : (List GItem)) (y1 : (List GExpr)) (x6 : Int) (b60068001_0 : (List GSource)) (r : GQuery) (h : sL7CopyQuery_X_L1 p0 b60021000_0 y1 x6 b60068001_0 = some r) : avc Try.prog acsL7CopyQuery_X_L1 (qsL7CopyQuery_X_3 r) (stsL7CopyQuery_X_L1 p0 b60021000_0 y1 x6 b60068001_0) := (OKs_sL7CopyQuery_X_L2).2.2.2.2.2.1 p0 b60021000_0 y1 x6 b60068001_0 r h
theorem OK_sL7Copies_X (p0 : (List GExpr)) : FOkB Try.prog 46 [(.d (.sl 10 (p0.map cGExpr)))] [] (fun (y : (List GExpr)) => (.tre 10000000)) (fun (y : (List GExpr)) => [(10000000, [(.trc 10 (y.map cGExpr))])]) (sL7Copies_X p0) := fun r h => (OKs_sL7CopyQuery_X_L2).2.2.2.2.2.2.1 p0 r h
theorem OK_sL7Copies_X_L0 (p0 : (List GExpr)) (x4 : Int) (b60012000_0 : (List GExpr)) (r : (List GExpr)) (h : sL7Copies_X_L0 p0 x4 b60012000_0 = some r) : avc Try.prog acsL7Copies_X_L0 (qsL7Copies_X_1 r) (stsL7Copies_X_L0 p0 x4 b60012000_0) := (OKs_sL7CopyQuery_X_L2).2.2.2.2.2.2.2 p0 x4 b60012000_0 r h
theorem OKs_sL7Copies_L0 (p0 : (List GExpr)) : (∀ (x4 : Int) (b60012000_0 : (List GExpr)) (r : (List GExpr)), sL7Copies_L0 p0 x4 b60012000_0 = some r → avc Try.prog acsL7Copies_L0 (qsL7Copies_1 r) (stsL7Copies_L0 p0 x4 b60012000_0)) := by
 refine sL7Copies_L0.partial_correctness p0 (fun x4 b60012000_0 r => avc Try.prog acsL7Copies_L0 (qsL7Copies_1 r) (stsL7Copies_L0 p0 x4 b60012000_0)) ?_
 · intro F_sL7Copies_L0 OK_sL7Copies_L0 x4 b60012000_0 r h
   delta acsL7Copies_L0
   refine loop_unroll (si (so ?_))
   let a3 : St := (stsL7Copies_L0 p0 x4 b60012000_0).p [(7, (.d (.sl 10 (p0.map cGExpr)))), (6, (vI x4))]
   refine st 2 a3 (ps (vI (ln p0)) (vln (sz := 10) (l := p0) (f := cGExpr)) ?_)
   let a4 : St := a3.p [(9, (vB (decide (x4 < (ln p0))))), (8, (vI (ln p0)))]
   refine st 1 a4 (nx ?_)
   refine cd h (fun h => ?_) fun h => ?_
   refine ki (xi (si (bi (oi ?_))))
   let a5 : St := a4.p [(14, (vI x4)), (13, (.d (.sl 10 (p0.map cGExpr)))), (12, (.tre 60012000))]
   refine st 3 a5 (vs (fun (y : GExpr) => (.rp (oGExpr y))) h (fun y hy => via (l := p0) (f := cGExpr) (g := oGExpr) (k := .i64) hy cGExpr_eq) fun y1 h => ?_)
   let a6 : St := a5.p [(16, (vGExpr y1)), (15, (.rp (oGExpr y1)))]
   refine st 1 a6 ?_
   refine callg_step ⟨[], [], [], [], [], [], [(10000008, 40310008), (10000009, 40310009)], [], []⟩ (m := sL7Copy_X y1) (S' := fun (y : GExpr) => ⟨(17, (.agv [(vI y.kind), (vI y.op), (vB y.not_), (vI y.value.kind), (vI y.value.num), (vS y.value.text), (vS y.qual), (vS y.name), (.tre 40310008), (.tre 40310009)])) :: a6.env, [(40310008, [(.trc 10 (y.kids.map cGExpr))]), (40310009, [(.trc 6 (y.sub.map cGQuery))]), (60012000, [(.trc 10 (b60012000_0.map cGExpr))])]⟩) h (OK_sL7Copy_X y1) (by kernel_rfl) (by kernel_rfl) (by kernel_rfl) (by kernel_rfl) (fun y => by kernel_rfl) (fun y => by kernel_rfl) ?_
   clear h; intro y2 h
   refine bslT_step (l := ([y2] : List GExpr)) (f := cGExpr) (g := oGExpr) [40310008, 40310009] (s' := ⟨(18, (.tre 18)) :: (17, (.agv [(vI y2.kind), (vI y2.op), (vB y2.not_), (vI y2.value.kind), (vI y2.value.num), (vS y2.value.text), (vS y2.qual), (vS y2.name), (.tre 40310008), (.tre 40310009)])) :: a6.env, [(18, [(.trc 10 (([y2] : List GExpr).map cGExpr))]), (40310008, [.trd]), (40310009, [.trd]), (60012000, [(.trc 10 (b60012000_0.map cGExpr))])]⟩) (by kernel_rfl) cGExpr_eq (by kernel_rfl) (by kernel_rfl) ?_
   refine appTT_step (l := b60012000_0) (m := ([y2] : List GExpr)) (f := cGExpr) [60012000] [18] (S' := fun y => ⟨(19, (.tre 19)) :: (18, (.tre 18)) :: (17, (.agv [(vI y2.kind), (vI y2.op), (vB y2.not_), (vI y2.value.kind), (vI y2.value.num), (vS y2.value.text), (vS y2.qual), (vS y2.name), (.tre 40310008), (.tre 40310009)])) :: a6.env, [(19, [(.trc 10 (y.map cGExpr))]), (18, [.trd]), (40310008, [.trd]), (40310009, [.trd]), (60012000, [.trd])]⟩) h (by kernel_rfl) (by kernel_rfl) (by kernel_rfl) (by kernel_rfl) (fun y => by kernel_rfl) ?_
   clear h; intro y3 h
   let a7 : St := ⟨(3, (.tre 19)) :: (19, (.tre 19)) :: (18, (.tre 18)) :: (17, (.agv [(vI y2.kind), (vI y2.op), (vB y2.not_), (vI y2.value.kind), (vI y2.value.num), (vS y2.value.text), (vS y2.qual), (vS y2.name), (.tre 40310008), (.tre 40310009)])) :: a6.env, [(19, [(.trc 10 (y3.map cGExpr))]), (18, [.trd]), (40310008, [.trd]), (40310009, [.trd]), (60012000, [.trd])]⟩
   refine st 1 a7 (ni (bn (xi (oi ?_))))
   let a8 : St := a7.p [(4, (vI (IntKind.wrap .i64 (x4 + 1)))), (11, (vI (IntKind.wrap .i64 (x4 + 1)))), (10, (vI x4))]
   exact st 3 a8 (ni (loop_back (s' := stsL7Copies_L0 p0 (IntKind.wrap .i64 (x4 + 1)) y3) (tw [.rn [(19, 60012000)]] (wr [] (es (es (es er_nil))) (bs_ br_nil))) (OK_sL7Copies_L0 (IntKind.wrap .i64 (x4 + 1)) y3 _ h)))
   refine ei (te (te (bh (xi (so ?_)))))
   let a9 : St := a4.p [(2, (.tre 60012000)), (20, (.tre 60012000))]
   refine st 2 a9 (nx (ret_wk (s' := ⟨[(2, (.d (.sl 10 (b60012000_0.map cGExpr))))], []⟩) (tw [.frz [60012000]] (wr [] (es er_nil) br_nil)) ?_))
   injection h with h; subst h
   exact r1 (v := (.d (.sl 10 (b60012000_0.map cGExpr))))
theorem OK_sL7Copies_L0 (p0 : (List GExpr)) (x4 : Int) (b60012000_0 : (List GExpr)) (r : (List GExpr)) (h : sL7Copies_L0 p0 x4 b60012000_0 = some r) : avc Try.prog acsL7Copies_L0 (qsL7Copies_1 r) (stsL7Copies_L0 p0 x4 b60012000_0) := (OKs_sL7Copies_L0 p0) x4 b60012000_0 r h
theorem OK_sL7Copies (p0 : (List GExpr)) : FOk Try.prog 46 [(.d (.sl 10 (p0.map cGExpr)))] (fun y => (.d (.sl 10 (y.map cGExpr)))) (sL7Copies p0) := by
 intro r h
 rw [sL7Copies] at h
 refine aof trsL7Copies ?_
 show avc Try.prog acsL7Copies (qsL7Copies _) ⟨[(0, (.d (.sl 10 (p0.map cGExpr))))], []⟩
 delta acsL7Copies
 refine so ?_
 let a0 : St := ⟨[(2, (.nil 10)), (0, (.d (.sl 10 (p0.map cGExpr))))], []⟩
 refine st 1 a0 (nx (so (bslT_step (l := ([] : List GExpr)) (f := cGExpr) (g := oGExpr) [] (s' := ⟨(5, (.tre 5)) :: a0.env, [(5, [(.trc 10 (([] : List GExpr).map cGExpr))])]⟩) (by kernel_rfl) cGExpr_eq (by kernel_rfl) (by kernel_rfl) ?_)))
 let a1 : St := ⟨(3, (.tre 5)) :: (5, (.tre 5)) :: a0.env, [(5, [(.trc 10 (([] : List GExpr).map cGExpr))])]⟩
 refine st 1 a1 (nx (si (so ?_)))
 let a2 : St := a1.p [(4, (vI 0))]
 exact st 1 a2 (nx (bi (loop_go (s' := stsL7Copies_L0 p0 0 ([] : List GExpr)) (tw [.rn [(5, 60012000)]] (wr [] (es (es (es er_nil))) (bs_ br_nil))) (OK_sL7Copies_L0 p0 0 ([] : List GExpr) _ h))))
theorem OKs_sL7Exprs_L3 (p0 : GQuery) : (∀ (x3_9 : (List GExpr)) (x6 : Int) (r : (List GExpr)), sL7Exprs_L3 p0 x3_9 x6 = some r → avc Try.prog acsL7Exprs_L3 (qsL7Exprs_6 r) (stsL7Exprs_L3 p0 x3_9 x6)) := by
 refine sL7Exprs_L3.partial_correctness p0 (fun x3_9 x6 r => avc Try.prog acsL7Exprs_L3 (qsL7Exprs_6 r) (stsL7Exprs_L3 p0 x3_9 x6)) ?_
 · intro F_sL7Exprs_L3 OK_sL7Exprs_L3 x3_9 x6 r h
   delta acsL7Exprs_L3
   refine loop_unroll (si (so ?_))
   let a21 : St := (stsL7Exprs_L3 p0 x3_9 x6).p [(52, (.d (.sl 11 (p0.order.map cGSortKey)))), (51, (.ptr 1 4)), (50, (vI x6))]
   refine st 3 a21 (ps (vI (ln p0.order)) (vln (sz := 11) (l := p0.order) (f := cGSortKey)) ?_)
   let a22 : St := a21.p [(54, (vB (decide (x6 < (ln p0.order))))), (53, (vI (ln p0.order)))]
   refine st 1 a22 (nx ?_)
   refine cd h (fun h => ?_) fun h => ?_
   refine ki (xi (si (bi (oi ?_))))
   let a23 : St := a22.p [(60, (vI x6)), (59, (.d (.sl 11 (p0.order.map cGSortKey)))), (58, (.ptr 1 4)), (57, (.osl 3 29 10 (x3_9.map cGExpr)))]
   refine st 4 a23 (vs (fun (y : GSortKey) => (.rp (oGSortKey y))) h (fun y hy => via (l := p0.order) (f := cGSortKey) (g := oGSortKey) (k := .i64) hy cGSortKey_eq) fun y10 h => ?_)
   let a24 : St := a23.p [(63, (vGExpr y10.expr)), (62, (.rp [(.i .i64 y10.expr.kind), (.i .i64 y10.expr.op), (.b y10.expr.not_), (.i .i64 y10.expr.value.kind), (.i .i64 y10.expr.value.num), (.s (bs y10.expr.value.text)), (.s (bs y10.expr.qual)), (.s (bs y10.expr.name)), (.sl 10 (y10.expr.kids.map cGExpr)), (.sl 6 (y10.expr.sub.map cGQuery)), (.b y10.desc)])), (61, (.rp (oGSortKey y10)))]
   refine st 2 a24 (bsl_step (l := ([y10.expr] : List GExpr)) (f := cGExpr) (g := oGExpr) (by kernel_rfl) cGExpr_eq (by kernel_rfl) ?_)
   refine app_step (t := 3) (l := x3_9) (m := ([y10.expr] : List GExpr)) (f := cGExpr) (S' := fun y => ⟨[(65, (.osl 65 29 10 (y.map cGExpr))), (64, (.osl 64 29 10 (([y10.expr] : List GExpr).map cGExpr))), (63, (vGExpr y10.expr)), (62, (.rp [(.i .i64 y10.expr.kind), (.i .i64 y10.expr.op), (.b y10.expr.not_), (.i .i64 y10.expr.value.kind), (.i .i64 y10.expr.value.num), (.s (bs y10.expr.value.text)), (.s (bs y10.expr.qual)), (.s (bs y10.expr.name)), (.sl 10 (y10.expr.kids.map cGExpr)), (.sl 6 (y10.expr.sub.map cGQuery)), (.b y10.desc)])), (61, (.rp (oGSortKey y10))), (60, (vI x6)), (59, (.d (.sl 11 (p0.order.map cGSortKey)))), (58, (.ptr 1 4)), (57, (.d (.sl 10 (x3_9.map cGExpr)))), (54, (vB (decide (x6 < (ln p0.order))))), (53, (vI (ln p0.order))), (52, (.d (.sl 11 (p0.order.map cGSortKey)))), (51, (.ptr 1 4)), (50, (vI x6)), (1, (.ptr 1 0)), (3, (.d (.sl 10 (x3_9.map cGExpr)))), (6, (vI x6))], [(1, bGQuery p0)]⟩) h (by kernel_rfl) (by kernel_rfl) (by kernel_rfl) (by kernel_rfl) (fun y => by kernel_rfl) ?_
   clear h; intro y11 h
   let a25 : St := ⟨[(3, (.osl 3 29 10 (y11.map cGExpr))), (65, (.d (.sl 10 (y11.map cGExpr)))), (64, (.osl 64 29 10 (([y10.expr] : List GExpr).map cGExpr))), (63, (vGExpr y10.expr)), (62, (.rp [(.i .i64 y10.expr.kind), (.i .i64 y10.expr.op), (.b y10.expr.not_), (.i .i64 y10.expr.value.kind), (.i .i64 y10.expr.value.num), (.s (bs y10.expr.value.text)), (.s (bs y10.expr.qual)), (.s (bs y10.expr.name)), (.sl 10 (y10.expr.kids.map cGExpr)), (.sl 6 (y10.expr.sub.map cGQuery)), (.b y10.desc)])), (61, (.rp (oGSortKey y10))), (60, (vI x6)), (59, (.d (.sl 11 (p0.order.map cGSortKey)))), (58, (.ptr 1 4)), (57, (.d (.sl 10 (x3_9.map cGExpr)))), (54, (vB (decide (x6 < (ln p0.order))))), (53, (vI (ln p0.order))), (52, (.d (.sl 11 (p0.order.map cGSortKey)))), (51, (.ptr 1 4)), (50, (vI x6)), (1, (.ptr 1 0)), (3, (.d (.sl 10 (x3_9.map cGExpr)))), (6, (vI x6))], [(1, bGQuery p0)]⟩
   refine st 1 a25 (ni (bn (xi (oi ?_))))
   let a26 : St := a25.p [(6, (vI (IntKind.wrap .i64 (x6 + 1)))), (56, (vI (IntKind.wrap .i64 (x6 + 1)))), (55, (vI x6))]
   exact st 3 a26 (ni (loop_back (s' := stsL7Exprs_L3 p0 y11 (IntKind.wrap .i64 (x6 + 1))) (wr [(3, .old 3)] (es (eo 3 (es er_nil))) (bs_ br_nil)) (OK_sL7Exprs_L3 y11 (IntKind.wrap .i64 (x6 + 1)) _ h)))
   refine ei (te (te (bh (xi (so ?_)))))
   let a27 : St := ⟨[(2, (.osl 2 29 10 (x3_9.map cGExpr))), (66, (.d (.sl 10 (x3_9.map cGExpr)))), (54, (vB (decide (x6 < (ln p0.order))))), (53, (vI (ln p0.order))), (52, (.d (.sl 11 (p0.order.map cGSortKey)))), (51, (.ptr 1 4)), (50, (vI x6)), (1, (.ptr 1 0)), (3, (.d (.sl 10 (x3_9.map cGExpr)))), (6, (vI x6))], [(1, bGQuery p0)]⟩
   refine st 2 a27 (nx (ret_wk (s' := ⟨[(2, (.osl 2000000 29 10 (x3_9.map cGExpr)))], []⟩) (wr [(2000000, .old 2)] (eo 2 er_nil) br_nil) ?_))
   injection h with h; subst h
   exact ret1_step (v := (.osl 2000000 29 10 (x3_9.map cGExpr))) (by kernel_rfl) (by kernel_rfl) ⟨by kernel_rfl, trivial⟩
theorem OK_sL7Exprs_L3 (p0 : GQuery) (x3_9 : (List GExpr)) (x6 : Int) (r : (List GExpr)) (h : sL7Exprs_L3 p0 x3_9 x6 = some r) : avc Try.prog acsL7Exprs_L3 (qsL7Exprs_6 r) (stsL7Exprs_L3 p0 x3_9 x6) := (OKs_sL7Exprs_L3 p0) x3_9 x6 r h
theorem OKs_sL7Exprs_L2 (p0 : GQuery) : (∀ (x3_5 : (List GExpr)) (x5 : Int) (r : (List GExpr)), sL7Exprs_L2 p0 x3_5 x5 = some r → avc Try.prog acsL7Exprs_L2 (qsL7Exprs_4 r) (stsL7Exprs_L2 p0 x3_5 x5)) := by
 refine sL7Exprs_L2.partial_correctness p0 (fun x3_5 x5 r => avc Try.prog acsL7Exprs_L2 (qsL7Exprs_4 r) (stsL7Exprs_L2 p0 x3_5 x5)) ?_
 · intro F_sL7Exprs_L2 OK_sL7Exprs_L2 x3_5 x5 r h
   delta acsL7Exprs_L2
   refine loop_unroll (si (so ?_))
   let a12 : St := (stsL7Exprs_L2 p0 x3_5 x5).p [(33, (.d (.sl 3 (p0.from_.map cGSource)))), (32, (.ptr 1 2)), (31, (vI x5))]
   refine st 3 a12 (ps (vI (ln p0.from_)) (vln (sz := 3) (l := p0.from_) (f := cGSource)) ?_)
   let a13 : St := a12.p [(35, (vB (decide (x5 < (ln p0.from_))))), (34, (vI (ln p0.from_)))]
   refine st 1 a13 (nx ?_)
   refine cd h (fun h => ?_) fun h => ?_
   refine ki (xi (si (bi (oi ?_))))
   let a14 : St := a13.p [(41, (vI x5)), (40, (.d (.sl 3 (p0.from_.map cGSource)))), (39, (.ptr 1 2)), (38, (.osl 3 29 10 (x3_5.map cGExpr)))]
   refine st 4 a14 (vs (fun (y : GSource) => (.rp (oGSource y))) h (fun y hy => via (l := p0.from_) (f := cGSource) (g := oGSource) (k := .i64) hy cGSource_eq) fun y6 h => ?_)
   let a15 : St := a14.p [(44, (.d (.sl 10 (y6.on_.map cGExpr)))), (43, (.rp [(.sl 10 (y6.on_.map cGExpr))])), (42, (.rp (oGSource y6)))]
   refine st 2 a15 ?_
   refine app_step (t := 3) (l := x3_5) (m := y6.on_) (f := cGExpr) (S' := fun y => ⟨[(45, (.osl 45 29 10 (y.map cGExpr))), (44, (.d (.sl 10 (y6.on_.map cGExpr)))), (43, (.rp [(.sl 10 (y6.on_.map cGExpr))])), (42, (.rp (oGSource y6))), (41, (vI x5)), (40, (.d (.sl 3 (p0.from_.map cGSource)))), (39, (.ptr 1 2)), (38, (.d (.sl 10 (x3_5.map cGExpr)))), (35, (vB (decide (x5 < (ln p0.from_))))), (34, (vI (ln p0.from_))), (33, (.d (.sl 3 (p0.from_.map cGSource)))), (32, (.ptr 1 2)), (31, (vI x5)), (1, (.ptr 1 0)), (3, (.d (.sl 10 (x3_5.map cGExpr)))), (5, (vI x5))], [(1, bGQuery p0)]⟩) h (by kernel_rfl) (by kernel_rfl) (by kernel_rfl) (by kernel_rfl) (fun y => by kernel_rfl) ?_
   clear h; intro y7 h
   let a16 : St := ⟨[(3, (.osl 3 29 10 (y7.map cGExpr))), (45, (.d (.sl 10 (y7.map cGExpr)))), (44, (.d (.sl 10 (y6.on_.map cGExpr)))), (43, (.rp [(.sl 10 (y6.on_.map cGExpr))])), (42, (.rp (oGSource y6))), (41, (vI x5)), (40, (.d (.sl 3 (p0.from_.map cGSource)))), (39, (.ptr 1 2)), (38, (.d (.sl 10 (x3_5.map cGExpr)))), (35, (vB (decide (x5 < (ln p0.from_))))), (34, (vI (ln p0.from_))), (33, (.d (.sl 3 (p0.from_.map cGSource)))), (32, (.ptr 1 2)), (31, (vI x5)), (1, (.ptr 1 0)), (3, (.d (.sl 10 (x3_5.map cGExpr)))), (5, (vI x5))], [(1, bGQuery p0)]⟩
   refine st 1 a16 (ni (bn (xi (oi ?_))))
   let a17 : St := a16.p [(5, (vI (IntKind.wrap .i64 (x5 + 1)))), (37, (vI (IntKind.wrap .i64 (x5 + 1)))), (36, (vI x5))]
   exact st 3 a17 (ni (loop_back (s' := stsL7Exprs_L2 p0 y7 (IntKind.wrap .i64 (x5 + 1))) (wr [(3, .old 3)] (es (eo 3 (es er_nil))) (bs_ br_nil)) (OK_sL7Exprs_L2 y7 (IntKind.wrap .i64 (x5 + 1)) _ h)))
   refine ei (te (te (bh (xi (so ?_)))))
   let a18 : St := a13.p [(48, (.d (.sl 10 (p0.where_.map cGExpr)))), (47, (.ptr 1 3)), (46, (.osl 3 29 10 (x3_5.map cGExpr)))]
   refine st 3 a18 ?_
   refine app_step (t := 3) (l := x3_5) (m := p0.where_) (f := cGExpr) (S' := fun y => ⟨[(49, (.osl 49 29 10 (y.map cGExpr))), (48, (.d (.sl 10 (p0.where_.map cGExpr)))), (47, (.ptr 1 3)), (46, (.d (.sl 10 (x3_5.map cGExpr)))), (35, (vB (decide (x5 < (ln p0.from_))))), (34, (vI (ln p0.from_))), (33, (.d (.sl 3 (p0.from_.map cGSource)))), (32, (.ptr 1 2)), (31, (vI x5)), (1, (.ptr 1 0)), (3, (.d (.sl 10 (x3_5.map cGExpr)))), (5, (vI x5))], [(1, bGQuery p0)]⟩) h (by kernel_rfl) (by kernel_rfl) (by kernel_rfl) (by kernel_rfl) (fun y => by kernel_rfl) ?_
   clear h; intro y8 h
   let a19 : St := ⟨[(3, (.osl 3 29 10 (y8.map cGExpr))), (49, (.d (.sl 10 (y8.map cGExpr)))), (48, (.d (.sl 10 (p0.where_.map cGExpr)))), (47, (.ptr 1 3)), (46, (.d (.sl 10 (x3_5.map cGExpr)))), (35, (vB (decide (x5 < (ln p0.from_))))), (34, (vI (ln p0.from_))), (33, (.d (.sl 3 (p0.from_.map cGSource)))), (32, (.ptr 1 2)), (31, (vI x5)), (1, (.ptr 1 0)), (3, (.d (.sl 10 (x3_5.map cGExpr)))), (5, (vI x5))], [(1, bGQuery p0)]⟩
   refine st 1 a19 (nx (si (so ?_)))
   let a20 : St := a19.p [(6, (vI 0))]
   exact st 1 a20 (nx (bi (loop_go (s' := stsL7Exprs_L3 p0 y8 0) (wr [(3, .old 3)] (es (eo 3 (es er_nil))) (bs_ br_nil)) (OK_sL7Exprs_L3 p0 y8 0 _ h))))
theorem OK_sL7Exprs_L2 (p0 : GQuery) (x3_5 : (List GExpr)) (x5 : Int) (r : (List GExpr)) (h : sL7Exprs_L2 p0 x3_5 x5 = some r) : avc Try.prog acsL7Exprs_L2 (qsL7Exprs_4 r) (stsL7Exprs_L2 p0 x3_5 x5) := (OKs_sL7Exprs_L2 p0) x3_5 x5 r h
theorem OKs_sL7Exprs_J1 (p0 : GQuery) : (∀ (x4 : Int) (x3_4 : (List GExpr)) (r : (List GExpr)), sL7Exprs_J1 x4 p0 x3_4 = some r → avc Try.prog acsL7Exprs_J1 (qsL7Exprs_2 r) (stsL7Exprs_J1 x4 p0 x3_4)) ∧ (∀ (x3 : (List GExpr)) (x4 : Int) (r : (List GExpr)), sL7Exprs_L0 p0 x3 x4 = some r → avc Try.prog acsL7Exprs_L0 (qsL7Exprs_1 r) (stsL7Exprs_L0 p0 x3 x4)) := by
 refine sL7Exprs_J1.mutual_partial_correctness p0 (fun x4 x3_4 r => avc Try.prog acsL7Exprs_J1 (qsL7Exprs_2 r) (stsL7Exprs_J1 x4 p0 x3_4)) (fun x3 x4 r => avc Try.prog acsL7Exprs_L0 (qsL7Exprs_1 r) (stsL7Exprs_L0 p0 x3 x4)) ?_ ?_
 · intro F_sL7Exprs_L0 OK_sL7Exprs_L0 x4 x3_4 r h
   delta acsL7Exprs_J1
   refine oi ?_
   let a11 : St := (stsL7Exprs_J1 x4 p0 x3_4).p [(4, (vI (IntKind.wrap .i64 (x4 + 1)))), (14, (vI (IntKind.wrap .i64 (x4 + 1)))), (13, (vI x4))]
   exact st 3 a11 (ni (loop_back (s' := stsL7Exprs_L0 p0 x3_4 (IntKind.wrap .i64 (x4 + 1))) (wr [(3, .old 3)] (es (eo 3 (es er_nil))) (bs_ br_nil)) (OK_sL7Exprs_L0 x3_4 (IntKind.wrap .i64 (x4 + 1)) _ h)))
 · intro F_sL7Exprs_J1 OK_sL7Exprs_J1 x3 x4 r h
   delta acsL7Exprs_L0
   refine loop_unroll (si (so ?_))
   let a3 : St := (stsL7Exprs_L0 p0 x3 x4).p [(10, (.d (.sl 13 (p0.items.map cGItem)))), (9, (.ptr 1 1)), (8, (vI x4))]
   refine st 3 a3 (ps (vI (ln p0.items)) (vln (sz := 13) (l := p0.items) (f := cGItem)) ?_)
   let a4 : St := a3.p [(12, (vB (decide (x4 < (ln p0.items))))), (11, (vI (ln p0.items)))]
   refine st 1 a4 (nx ?_)
   refine cd h (fun h => ?_) fun h => ?_
   refine ki (xi (si (bi (so ?_))))
   let a5 : St := a4.p [(17, (vI x4)), (16, (.d (.sl 13 (p0.items.map cGItem)))), (15, (.ptr 1 1))]
   refine st 3 a5 (vs (fun (y : GItem) => (.rp (oGItem y))) h (fun y hy => via (l := p0.items) (f := cGItem) (g := oGItem) (k := .i64) hy cGItem_eq) fun y1 h => ?_)
   let a6 : St := a5.p [(21, (vB (!y1.star))), (20, (vB y1.star)), (19, (.rp [(.b y1.star), (.s (bs y1.qual)), (.i .i64 y1.expr.kind), (.i .i64 y1.expr.op), (.b y1.expr.not_), (.i .i64 y1.expr.value.kind), (.i .i64 y1.expr.value.num), (.s (bs y1.expr.value.text)), (.s (bs y1.expr.qual)), (.s (bs y1.expr.name)), (.sl 10 (y1.expr.kids.map cGExpr)), (.sl 6 (y1.expr.sub.map cGQuery)), (.s (bs y1.as_))])), (18, (.rp (oGItem y1)))]
   refine st 3 a6 (nx ?_)
   refine cd h (fun h => ?_) fun h => ?_
   refine oi ?_
   let a7 : St := a6.p [(25, (vI x4)), (24, (.d (.sl 13 (p0.items.map cGItem)))), (23, (.ptr 1 1)), (22, (.osl 3 29 10 (x3.map cGExpr)))]
   refine st 4 a7 (vs (fun (y : GItem) => (.rp (oGItem y))) h (fun y hy => via (l := p0.items) (f := cGItem) (g := oGItem) (k := .i64) hy cGItem_eq) fun y2 h => ?_)
   let a8 : St := a7.p [(28, (vGExpr y2.expr)), (27, (.rp [(.i .i64 y2.expr.kind), (.i .i64 y2.expr.op), (.b y2.expr.not_), (.i .i64 y2.expr.value.kind), (.i .i64 y2.expr.value.num), (.s (bs y2.expr.value.text)), (.s (bs y2.expr.qual)), (.s (bs y2.expr.name)), (.sl 10 (y2.expr.kids.map cGExpr)), (.sl 6 (y2.expr.sub.map cGQuery)), (.s (bs y2.as_))])), (26, (.rp (oGItem y2)))]
   refine st 2 a8 (bsl_step (l := ([y2.expr] : List GExpr)) (f := cGExpr) (g := oGExpr) (by kernel_rfl) cGExpr_eq (by kernel_rfl) ?_)
   refine app_step (t := 3) (l := x3) (m := ([y2.expr] : List GExpr)) (f := cGExpr) (S' := fun y => ⟨[(30, (.osl 30 29 10 (y.map cGExpr))), (29, (.osl 29 29 10 (([y2.expr] : List GExpr).map cGExpr))), (28, (vGExpr y2.expr)), (27, (.rp [(.i .i64 y2.expr.kind), (.i .i64 y2.expr.op), (.b y2.expr.not_), (.i .i64 y2.expr.value.kind), (.i .i64 y2.expr.value.num), (.s (bs y2.expr.value.text)), (.s (bs y2.expr.qual)), (.s (bs y2.expr.name)), (.sl 10 (y2.expr.kids.map cGExpr)), (.sl 6 (y2.expr.sub.map cGQuery)), (.s (bs y2.as_))])), (26, (.rp (oGItem y2))), (25, (vI x4)), (24, (.d (.sl 13 (p0.items.map cGItem)))), (23, (.ptr 1 1)), (22, (.d (.sl 10 (x3.map cGExpr)))), (21, (vB (!y1.star))), (20, (vB y1.star)), (19, (.rp [(.b y1.star), (.s (bs y1.qual)), (.i .i64 y1.expr.kind), (.i .i64 y1.expr.op), (.b y1.expr.not_), (.i .i64 y1.expr.value.kind), (.i .i64 y1.expr.value.num), (.s (bs y1.expr.value.text)), (.s (bs y1.expr.qual)), (.s (bs y1.expr.name)), (.sl 10 (y1.expr.kids.map cGExpr)), (.sl 6 (y1.expr.sub.map cGQuery)), (.s (bs y1.as_))])), (18, (.rp (oGItem y1))), (17, (vI x4)), (16, (.d (.sl 13 (p0.items.map cGItem)))), (15, (.ptr 1 1)), (12, (vB (decide (x4 < (ln p0.items))))), (11, (vI (ln p0.items))), (10, (.d (.sl 13 (p0.items.map cGItem)))), (9, (.ptr 1 1)), (8, (vI x4)), (1, (.ptr 1 0)), (3, (.d (.sl 10 (x3.map cGExpr)))), (4, (vI x4))], [(1, bGQuery p0)]⟩) h (by kernel_rfl) (by kernel_rfl) (by kernel_rfl) (by kernel_rfl) (fun y => by kernel_rfl) ?_
   clear h; intro y3 h
   let a9 : St := ⟨[(3, (.osl 3 29 10 (y3.map cGExpr))), (30, (.d (.sl 10 (y3.map cGExpr)))), (29, (.osl 29 29 10 (([y2.expr] : List GExpr).map cGExpr))), (28, (vGExpr y2.expr)), (27, (.rp [(.i .i64 y2.expr.kind), (.i .i64 y2.expr.op), (.b y2.expr.not_), (.i .i64 y2.expr.value.kind), (.i .i64 y2.expr.value.num), (.s (bs y2.expr.value.text)), (.s (bs y2.expr.qual)), (.s (bs y2.expr.name)), (.sl 10 (y2.expr.kids.map cGExpr)), (.sl 6 (y2.expr.sub.map cGQuery)), (.s (bs y2.as_))])), (26, (.rp (oGItem y2))), (25, (vI x4)), (24, (.d (.sl 13 (p0.items.map cGItem)))), (23, (.ptr 1 1)), (22, (.d (.sl 10 (x3.map cGExpr)))), (21, (vB (!y1.star))), (20, (vB y1.star)), (19, (.rp [(.b y1.star), (.s (bs y1.qual)), (.i .i64 y1.expr.kind), (.i .i64 y1.expr.op), (.b y1.expr.not_), (.i .i64 y1.expr.value.kind), (.i .i64 y1.expr.value.num), (.s (bs y1.expr.value.text)), (.s (bs y1.expr.qual)), (.s (bs y1.expr.name)), (.sl 10 (y1.expr.kids.map cGExpr)), (.sl 6 (y1.expr.sub.map cGQuery)), (.s (bs y1.as_))])), (18, (.rp (oGItem y1))), (17, (vI x4)), (16, (.d (.sl 13 (p0.items.map cGItem)))), (15, (.ptr 1 1)), (12, (vB (decide (x4 < (ln p0.items))))), (11, (vI (ln p0.items))), (10, (.d (.sl 13 (p0.items.map cGItem)))), (9, (.ptr 1 1)), (8, (vI x4)), (1, (.ptr 1 0)), (3, (.d (.sl 10 (x3.map cGExpr)))), (4, (vI x4))], [(1, bGQuery p0)]⟩
   exact st 1 a9 (ni (bn (next_step (s' := stsL7Exprs_J1 x4 p0 y3) (wr [(3, .old 3)] (es (eo 3 (es er_nil))) (bs_ br_nil)) (OK_sL7Exprs_J1 x4 y3 _ h))))
   exact ki (bn (next_step (s' := stsL7Exprs_J1 x4 p0 x3) (wr [(3, .old 3)] (es (eo 3 (es er_nil))) (bs_ br_nil)) (OK_sL7Exprs_J1 x4 x3 _ h)))
   refine ei (te (te (bh (xi (si (so ?_))))))
   let a10 : St := a4.p [(5, (vI 0))]
   exact st 1 a10 (nx (bi (loop_go (s' := stsL7Exprs_L2 p0 x3 0) (wr [(3, .old 3)] (es (eo 3 (es er_nil))) (bs_ br_nil)) (OK_sL7Exprs_L2 p0 x3 0 _ h))))
theorem OK_sL7Exprs_J1 (x4 : Int) (p0 : GQuery) (x3_4 : (List GExpr)) (r : (List GExpr)) (h : sL7Exprs_J1 x4 p0 x3_4 = some r) : avc Try.prog acsL7Exprs_J1 (qsL7Exprs_2 r) (stsL7Exprs_J1 x4 p0 x3_4) := (OKs_sL7Exprs_J1 p0).1 x4 x3_4 r h
theorem OK_sL7Exprs_L0 (p0 : GQuery) (x3 : (List GExpr)) (x4 : Int) (r : (List GExpr)) (h : sL7Exprs_L0 p0 x3 x4 = some r) : avc Try.prog acsL7Exprs_L0 (qsL7Exprs_1 r) (stsL7Exprs_L0 p0 x3 x4) := (OKs_sL7Exprs_J1 p0).2 x3 x4 r h
theorem OK_sL7Exprs (p0 : GQuery) : FOkB Try.prog 93 [(vGQuery p0)] [] (fun (y : (List GExpr)) => (.osl 2000000 29 10 (y.map cGExpr))) (fun (y : (List GExpr)) => []) (sL7Exprs p0) := by
 intro r h
 rw [sL7Exprs] at h
 refine aof trsL7Exprs ?_
 show avc Try.prog acsL7Exprs (qsL7Exprs _) ⟨[(0, (vGQuery p0))], []⟩
 delta acsL7Exprs
 refine so ?_
 let a0 : St := ⟨[(2, (.nil 10)), (1, (.ptr 1 0)), (0, (vGQuery p0))], [(1, bGQuery p0)]⟩
 refine st 2 a0 (nx (so (bsl_step (l := ([] : List GExpr)) (f := cGExpr) (g := oGExpr) (by kernel_rfl) cGExpr_eq (by kernel_rfl) ?_)))
 let a1 : St := a0.p [(3, (.osl 3 29 10 (([] : List GExpr).map cGExpr))), (7, (.d (.sl 10 (([] : List GExpr).map cGExpr))))]
 refine st 1 a1 (nx (si (so ?_)))
 let a2 : St := a1.p [(4, (vI 0))]
 exact st 1 a2 (nx (bi (loop_go (s' := stsL7Exprs_L0 p0 ([] : List GExpr) 0) (wr [(3, .old 3)] (es (eo 3 (es er_nil))) (bs_ br_nil)) (OK_sL7Exprs_L0 p0 ([] : List GExpr) 0 _ h))))
theorem OKs_sL8Exprs_L0 (p0 : GStmt) : (∀ (x3 : (List GExpr)) (x4 : Int) (r : (List GExpr)), sL8Exprs_L0 p0 x3 x4 = some r → avc Try.prog acsL8Exprs_L0 (qsL8Exprs_1 r) (stsL8Exprs_L0 p0 x3 x4)) := by
 refine sL8Exprs_L0.partial_correctness p0 (fun x3 x4 r => avc Try.prog acsL8Exprs_L0 (qsL8Exprs_1 r) (stsL8Exprs_L0 p0 x3 x4)) ?_
 · intro F_sL8Exprs_L0 OK_sL8Exprs_L0 x3 x4 r h
   delta acsL8Exprs_L0
   refine loop_unroll (si (so ?_))
   let a4 : St := (stsL8Exprs_L0 p0 x3 x4).p [(10, (.d (.sl 1 (p0.rows.map (cSl 10 cGExpr))))), (9, (.ptr 1 8)), (8, (vI x4))]
   refine st 3 a4 (ps (vI (ln p0.rows)) (vln (sz := 1) (l := p0.rows) (f := (cSl 10 cGExpr))) ?_)
   let a5 : St := a4.p [(12, (vB (decide (x4 < (ln p0.rows))))), (11, (vI (ln p0.rows)))]
   refine st 1 a5 (nx ?_)
   refine cd h (fun h => ?_) fun h => ?_
   refine ki (xi (si (bi (oi ?_))))
   let a6 : St := a5.p [(18, (vI x4)), (17, (.d (.sl 1 (p0.rows.map (cSl 10 cGExpr))))), (16, (.ptr 1 8)), (15, (.osl 3 29 10 (x3.map cGExpr)))]
   refine st 4 a6 (vs (fun (y : (List GExpr)) => (.rp [(.sl 10 (y.map cGExpr))])) h (fun y hy => via (l := p0.rows) (f := (cSl 10 cGExpr)) (g := (cSl 10 cGExpr)) (k := .i64) hy (fun _ => rfl)) fun y2 h => ?_)
   let a7 : St := a6.p [(20, (.d (.sl 10 (y2.map cGExpr)))), (19, (.rp [(.sl 10 (y2.map cGExpr))]))]
   refine st 1 a7 ?_
   refine app_step (t := 3) (l := x3) (m := y2) (f := cGExpr) (S' := fun y => ⟨[(21, (.osl 21 29 10 (y.map cGExpr))), (20, (.d (.sl 10 (y2.map cGExpr)))), (19, (.rp [(.sl 10 (y2.map cGExpr))])), (18, (vI x4)), (17, (.d (.sl 1 (p0.rows.map (cSl 10 cGExpr))))), (16, (.ptr 1 8)), (15, (.d (.sl 10 (x3.map cGExpr)))), (12, (vB (decide (x4 < (ln p0.rows))))), (11, (vI (ln p0.rows))), (10, (.d (.sl 1 (p0.rows.map (cSl 10 cGExpr))))), (9, (.ptr 1 8)), (8, (vI x4)), (1, (.ptr 1 0)), (3, (.d (.sl 10 (x3.map cGExpr)))), (4, (vI x4))], [(1, bGStmt p0)]⟩) h (by kernel_rfl) (by kernel_rfl) (by kernel_rfl) (by kernel_rfl) (fun y => by kernel_rfl) ?_
   clear h; intro y3 h
   let a8 : St := ⟨[(3, (.osl 3 29 10 (y3.map cGExpr))), (21, (.d (.sl 10 (y3.map cGExpr)))), (20, (.d (.sl 10 (y2.map cGExpr)))), (19, (.rp [(.sl 10 (y2.map cGExpr))])), (18, (vI x4)), (17, (.d (.sl 1 (p0.rows.map (cSl 10 cGExpr))))), (16, (.ptr 1 8)), (15, (.d (.sl 10 (x3.map cGExpr)))), (12, (vB (decide (x4 < (ln p0.rows))))), (11, (vI (ln p0.rows))), (10, (.d (.sl 1 (p0.rows.map (cSl 10 cGExpr))))), (9, (.ptr 1 8)), (8, (vI x4)), (1, (.ptr 1 0)), (3, (.d (.sl 10 (x3.map cGExpr)))), (4, (vI x4))], [(1, bGStmt p0)]⟩
   refine st 1 a8 (ni (bn (xi (oi ?_))))
   let a9 : St := a8.p [(4, (vI (IntKind.wrap .i64 (x4 + 1)))), (14, (vI (IntKind.wrap .i64 (x4 + 1)))), (13, (vI x4))]
   exact st 3 a9 (ni (loop_back (s' := stsL8Exprs_L0 p0 y3 (IntKind.wrap .i64 (x4 + 1))) (wr [(3, .old 3)] (es (eo 3 (es er_nil))) (bs_ br_nil)) (OK_sL8Exprs_L0 y3 (IntKind.wrap .i64 (x4 + 1)) _ h)))
   refine ei (te (te (bh (xi (so ?_)))))
   let a10 : St := a5.p [(24, (.d (.sl 10 (p0.sets.map cGExpr)))), (23, (.ptr 1 10)), (22, (.osl 3 29 10 (x3.map cGExpr)))]
   refine st 3 a10 ?_
   refine app_step (t := 3) (l := x3) (m := p0.sets) (f := cGExpr) (S' := fun y => ⟨[(25, (.osl 25 29 10 (y.map cGExpr))), (24, (.d (.sl 10 (p0.sets.map cGExpr)))), (23, (.ptr 1 10)), (22, (.d (.sl 10 (x3.map cGExpr)))), (12, (vB (decide (x4 < (ln p0.rows))))), (11, (vI (ln p0.rows))), (10, (.d (.sl 1 (p0.rows.map (cSl 10 cGExpr))))), (9, (.ptr 1 8)), (8, (vI x4)), (1, (.ptr 1 0)), (3, (.d (.sl 10 (x3.map cGExpr)))), (4, (vI x4))], [(1, bGStmt p0)]⟩) h (by kernel_rfl) (by kernel_rfl) (by kernel_rfl) (by kernel_rfl) (fun y => by kernel_rfl) ?_
   clear h; intro y4 h
   let a11 : St := ⟨[(3, (.osl 3 29 10 (y4.map cGExpr))), (25, (.d (.sl 10 (y4.map cGExpr)))), (24, (.d (.sl 10 (p0.sets.map cGExpr)))), (23, (.ptr 1 10)), (22, (.d (.sl 10 (x3.map cGExpr)))), (12, (vB (decide (x4 < (ln p0.rows))))), (11, (vI (ln p0.rows))), (10, (.d (.sl 1 (p0.rows.map (cSl 10 cGExpr))))), (9, (.ptr 1 8)), (8, (vI x4)), (1, (.ptr 1 0)), (3, (.d (.sl 10 (x3.map cGExpr)))), (4, (vI x4))], [(1, bGStmt p0)]⟩
   refine st 1 a11 (nx (so ?_))
   let a12 : St := a11.p [(28, (.d (.sl 10 (p0.where_.map cGExpr)))), (27, (.ptr 1 11)), (26, (.osl 3 29 10 (y4.map cGExpr)))]
   refine st 3 a12 ?_
   refine app_step (t := 3) (l := y4) (m := p0.where_) (f := cGExpr) (S' := fun y => ⟨[(29, (.osl 29 29 10 (y.map cGExpr))), (28, (.d (.sl 10 (p0.where_.map cGExpr)))), (27, (.ptr 1 11)), (26, (.d (.sl 10 (y4.map cGExpr)))), (3, (.d (.sl 10 (y4.map cGExpr)))), (25, (.d (.sl 10 (y4.map cGExpr)))), (24, (.d (.sl 10 (p0.sets.map cGExpr)))), (23, (.ptr 1 10)), (22, (.d (.sl 10 (x3.map cGExpr)))), (12, (vB (decide (x4 < (ln p0.rows))))), (11, (vI (ln p0.rows))), (10, (.d (.sl 1 (p0.rows.map (cSl 10 cGExpr))))), (9, (.ptr 1 8)), (8, (vI x4)), (1, (.ptr 1 0)), (3, (.d (.sl 10 (x3.map cGExpr)))), (4, (vI x4))], [(1, bGStmt p0)]⟩) h (by kernel_rfl) (by kernel_rfl) (by kernel_rfl) (by kernel_rfl) (fun y => by kernel_rfl) ?_
   clear h; intro y5 h
   let a13 : St := ⟨[(2, (.osl 2 29 10 (y5.map cGExpr))), (29, (.d (.sl 10 (y5.map cGExpr)))), (28, (.d (.sl 10 (p0.where_.map cGExpr)))), (27, (.ptr 1 11)), (26, (.d (.sl 10 (y4.map cGExpr)))), (3, (.d (.sl 10 (y4.map cGExpr)))), (25, (.d (.sl 10 (y4.map cGExpr)))), (24, (.d (.sl 10 (p0.sets.map cGExpr)))), (23, (.ptr 1 10)), (22, (.d (.sl 10 (x3.map cGExpr)))), (12, (vB (decide (x4 < (ln p0.rows))))), (11, (vI (ln p0.rows))), (10, (.d (.sl 1 (p0.rows.map (cSl 10 cGExpr))))), (9, (.ptr 1 8)), (8, (vI x4)), (1, (.ptr 1 0)), (3, (.d (.sl 10 (x3.map cGExpr)))), (4, (vI x4))], [(1, bGStmt p0)]⟩
   refine st 1 a13 (nx (ret_wk (s' := ⟨[(2, (.osl 2000000 29 10 (y5.map cGExpr)))], []⟩) (wr [(2000000, .old 2)] (eo 2 er_nil) br_nil) ?_))
   injection h with h; subst h
   exact ret1_step (v := (.osl 2000000 29 10 (y5.map cGExpr))) (by kernel_rfl) (by kernel_rfl) ⟨by kernel_rfl, trivial⟩
theorem OK_sL8Exprs_L0 (p0 : GStmt) (x3 : (List GExpr)) (x4 : Int) (r : (List GExpr)) (h : sL8Exprs_L0 p0 x3 x4 = some r) : avc Try.prog acsL8Exprs_L0 (qsL8Exprs_1 r) (stsL8Exprs_L0 p0 x3 x4) := (OKs_sL8Exprs_L0 p0) x3 x4 r h
theorem OK_sL8Exprs (p0 : GStmt) : FOkB Try.prog 47 [(vGStmt p0)] [] (fun (y : (List GExpr)) => (.osl 2000000 29 10 (y.map cGExpr))) (fun (y : (List GExpr)) => []) (sL8Exprs p0) := by
 intro r h
 rw [sL8Exprs] at h
 refine aof trsL8Exprs ?_
 show avc Try.prog acsL8Exprs (qsL8Exprs _) ⟨[(0, (vGStmt p0))], []⟩
 delta acsL8Exprs
 refine so ?_
 let a0 : St := ⟨[(2, (.nil 10)), (1, (.ptr 1 0)), (0, (vGStmt p0))], [(1, bGStmt p0)]⟩
 refine st 2 a0 (nx (so ?_))
 let a1 : St := a0.p [(6, (vGQuery p0.query)), (5, (.ptr 1 1))]
 refine st 2 a1 (callg_step ⟨[], [], [], [], [], [(2000000, 7)], [], [7], []⟩ (m := sL7Exprs p0.query) (S' := fun (y : (List GExpr)) => ⟨(7, (.osl 7 29 10 (y.map cGExpr))) :: a1.env, a1.bx⟩) h (OK_sL7Exprs p0.query) (by kernel_rfl) (by kernel_rfl) (by kernel_rfl) (by kernel_rfl) (fun y => by kernel_rfl) (fun y => by kernel_rfl) ?_)
 clear h; intro y1 h
 let a2 : St := a1.p [(3, (.osl 3 29 10 (y1.map cGExpr))), (7, (.d (.sl 10 (y1.map cGExpr))))]
 refine st 1 a2 (nx (si (so ?_)))
 let a3 : St := a2.p [(4, (vI 0))]
 exact st 1 a3 (nx (bi (loop_go (s' := stsL8Exprs_L0 p0 y1 0) (wr [(3, .old 3)] (es (eo 3 (es er_nil))) (bs_ br_nil)) (OK_sL8Exprs_L0 p0 y1 0 _ h))))
theorem OK_sExprsOf (p0 : GStmt) : FOk Try.prog 18 [(vGStmt p0)] (fun y => (.d (.sl 10 (y.map cGExpr)))) (sExprsOf p0) := by
 intro r h
 rw [sExprsOf] at h
 refine aof trsExprsOf ?_
 show avc Try.prog acsExprsOf (qsExprsOf _) ⟨[(0, (vGStmt p0))], []⟩
 delta acsExprsOf
 refine so ?_
 let a0 : St := ⟨[(2, (.nil 10)), (1, (.ptr 1 0)), (0, (vGStmt p0))], [(1, bGStmt p0)]⟩
 refine st 2 a0 (nx (so ?_))
 let a1 : St := a0.p [(3, (vGStmt p0))]
 refine st 1 a1 (callg_step ⟨[], [], [], [], [], [(2000000, 4)], [], [4], []⟩ (m := sL8Exprs p0) (S' := fun (y : (List GExpr)) => ⟨(4, (.osl 4 29 10 (y.map cGExpr))) :: a1.env, a1.bx⟩) h (OK_sL8Exprs p0) (by kernel_rfl) (by kernel_rfl) (by kernel_rfl) (by kernel_rfl) (fun y => by kernel_rfl) (fun y => by kernel_rfl) ?_)
 clear h; intro y1 h
 refine cs h (OK_sL7Copies y1) fun y2 h => ?_
 let a2 : St := a1.p [(2, (.d (.sl 10 (y2.map cGExpr)))), (5, (.d (.sl 10 (y2.map cGExpr)))), (4, (.osl 4 29 10 (y1.map cGExpr)))]
 refine st 1 a2 (nx (ri ?_))
 injection h with h; subst h
 exact r1 (v := (.d (.sl 10 (y2.map cGExpr))))
theorem OK_wLow (p0 : Int) (p1 : Int) : FOk Try.prog 11 [(vI p0), (vI p1)] (fun y => (vI y)) (wLow p0 p1) := by
 intro r h
 rw [wLow] at h
 refine aof trwLow ?_
 show avc Try.prog acwLow (qwLow _) ⟨[(0, (vI p0)), (1, (vI p1))], []⟩
 delta acwLow
 refine so ?_
 let a0 : St := ⟨[(4, (vI 0)), (0, (vI p0)), (1, (vI p1))], []⟩
 refine st 1 a0 (nx (si (so ?_)))
 let a1 : St := a0.p [(7, (vB (decide (p0 < p1)))), (6, (vI p1)), (5, (vI p0))]
 refine st 3 a1 (nx ?_)
 refine cd h (fun h => ?_) fun h => ?_
 refine so ?_
 let a2 : St := a1.p [(4, (vI p0)), (8, (vI p0))]
 refine st 2 a2 (nx (ri (tr ?_)))
 injection h with h; subst h
 exact r1 (v := (vI p0))
 refine ki (xi (so ?_))
 let a3 : St := a1.p [(4, (vI p1)), (9, (vI p1))]
 refine st 2 a3 (nx (ri ?_))
 injection h with h; subst h
 exact r1 (v := (vI p1))
theorem OKs_wFnStmtParts_L0 (y3 : (List GExpr)) (y2 : GStmt) : (∀ (x5 : Int) (x6 : Int) (x7 : Int) (r : Bool), wFnStmtParts_L0 y3 y2 x5 x6 x7 = some r → avc Try.prog acwFnStmtParts_L0 (qwFnStmtParts_1 r) (stwFnStmtParts_L0 y3 y2 x5 x6 x7)) := by
 refine wFnStmtParts_L0.partial_correctness y3 y2 (fun x5 x6 x7 r => avc Try.prog acwFnStmtParts_L0 (qwFnStmtParts_1 r) (stwFnStmtParts_L0 y3 y2 x5 x6 x7)) ?_
 · intro F_wFnStmtParts_L0 OK_wFnStmtParts_L0 x5 x6 x7 r h
   delta acwFnStmtParts_L0
   refine loop_unroll (si (so ?_))
   let a10 : St := (stwFnStmtParts_L0 y3 y2 x5 x6 x7).p [(15, (.d (.sl 10 (y3.map cGExpr)))), (14, (vI x7))]
   refine st 2 a10 (ps (vI (ln y3)) (vln (sz := 10) (l := y3) (f := cGExpr)) ?_)
   let a11 : St := a10.p [(17, (vB (decide (x7 < (ln y3))))), (16, (vI (ln y3)))]
   refine st 1 a11 (nx ?_)
   refine cd h (fun h => ?_) fun h => ?_
   refine ki (xi (si (bi (so ?_))))
   let a12 : St := a11.p [(23, (vI x7)), (22, (.d (.sl 10 (y3.map cGExpr)))), (21, (vI (IntKind.wrap .i64 (0 - x5)))), (20, (vI x5))]
   refine st 4 a12 (vs (fun (y : GExpr) => (.rp (oGExpr y))) h (fun y hy => via (l := y3) (f := cGExpr) (g := oGExpr) (k := .i64) hy cGExpr_eq) fun y4 h => ?_)
   let a13 : St := a12.p [(25, (vGExpr y4)), (24, (.rp (oGExpr y4)))]
   refine st 1 a13 (cs h (OK_iDepthOf y4) fun y5 h => ?_)
   let a14 : St := a13.p [(27, (vI (IntKind.wrap .i64 (0 - y5)))), (26, (vI y5))]
   refine st 1 a14 (cs h (OK_wLow (IntKind.wrap .i64 (0 - x5)) (IntKind.wrap .i64 (0 - y5))) fun y6 h => ?_)
   let a15 : St := a14.p [(5, (vI (IntKind.wrap .i64 (0 - y6)))), (29, (vI (IntKind.wrap .i64 (0 - y6)))), (28, (vI y6))]
   refine st 2 a15 (nx (oi ?_))
   let a16 : St := a15.p [(32, (vI x7)), (31, (.d (.sl 10 (y3.map cGExpr)))), (30, (vI x6))]
   refine st 3 a16 (vs (fun (y : GExpr) => (.rp (oGExpr y))) h (fun y hy => via (l := y3) (f := cGExpr) (g := oGExpr) (k := .i64) hy cGExpr_eq) fun y7 h => ?_)
   let a17 : St := a16.p [(34, (vGExpr y7)), (33, (.rp (oGExpr y7)))]
   refine st 1 a17 (cs h (OK_iSizeOf y7) fun y8 h => ?_)
   let a18 : St := a17.p [(6, (vI (IntKind.wrap .i64 (x6 + y8)))), (36, (vI (IntKind.wrap .i64 (x6 + y8)))), (35, (vI y8))]
   refine st 2 a18 (ni (bn (xi (oi ?_))))
   let a19 : St := a18.p [(7, (vI (IntKind.wrap .i64 (x7 + 1)))), (19, (vI (IntKind.wrap .i64 (x7 + 1)))), (18, (vI x7))]
   refine st 3 a19 (ni ?_)
   exact loop_back (s' := stwFnStmtParts_L0 y3 y2 (IntKind.wrap .i64 (0 - y6)) (IntKind.wrap .i64 (x6 + y8)) (IntKind.wrap .i64 (x7 + 1))) (wr [] (es (es (es (es (es er_nil))))) (bs_ br_nil)) (OK_wFnStmtParts_L0 (IntKind.wrap .i64 (0 - y6)) (IntKind.wrap .i64 (x6 + y8)) (IntKind.wrap .i64 (x7 + 1)) _ h)
   refine ei (te (te (bh (xi (so ?_)))))
   let a20 : St := a11.p [(37, (.d (.sl 10 (y3.map cGExpr))))]
   refine st 1 a20 (ps (vI (ln y3)) (vln (sz := 10) (l := y3) (f := cGExpr)) ?_)
   let a21 : St := a20.p [(39, (vGStmt y2)), (38, (vI (ln y3)))]
   refine st 1 a21 (cs h (OK_sExprsOf y2) fun y9 h => (ps (vI (ln y9)) (vln (sz := 10) (l := y9) (f := cGExpr)) ?_))
   let a22 : St := a21.p [(43, (vB (decide ((ln y3) = (ln y9))))), (42, (vB (decide ((ln y3) = (ln y9))))), (41, (vI (ln y9))), (40, (.d (.sl 10 (y9.map cGExpr))))]
   refine st 2 a22 (gp true (decide ((ln y3) = (ln y9))) (vGStmt y2) (fun hc => vl) ?_)
   refine gcall_step (p := true) (b := (decide ((ln y3) = (ln y9)))) (m := iStmtDepth y2) (dflt := default) (args := [(vGStmt y2)]) (v' := (fun y => (vI y))) h (by kernel_rfl) (OK_iStmtDepth y2) (fun hc => by kernel_rfl) (by kernel_rfl) (fun _ => rfl) (fun hc => (Eq.trans (b := ([(true && ((decide ((ln y3) = (ln y9))) == true))] : List Bool).all id) (by kernel_rfl) (all_c hc rfl))) ?_
   clear h; intro y10 h
   refine gp true (decide ((ln y3) = (ln y9))) (vI x5) (fun hc => vl) ?_
   refine gp true (decide ((ln y3) = (ln y9))) (vB (decide (y10 = x5))) (fun hc => vop_val1 (Eq.trans (b := ([(true && ((decide ((ln y3) = (ln y9))) == true)), (true && ((decide ((ln y3) = (ln y9))) == true))] : List Bool).all id) (by kernel_rfl) (all_c hc (all_c hc rfl))) (by kernel_rfl)) ?_
   refine vs (fun (y : Bool) => (vB y)) h (fun y hy => vop_pickV hy (p := (true && ((decide ((ln y3) = (ln y9))) == true))) (q := true) (by kernel_rfl) (by kernel_rfl) (by kernel_rfl) (by kernel_rfl) (fun hb => gc_t rfl hb) (fun _ => rfl)) fun y11 h => ?_
   let a23 : St := a22.p [(49, (vB y11)), (48, (vB y11)), (47, (.ite (true && ((decide ((ln y3) = (ln y9))) == true)) (vB (decide (y10 = x5))))), (46, (.ite (true && ((decide ((ln y3) = (ln y9))) == true)) (vI x5))), (45, (.ite (true && ((decide ((ln y3) = (ln y9))) == true)) (vI y10))), (44, (.ite (true && ((decide ((ln y3) = (ln y9))) == true)) (vGStmt y2)))]
   refine st 1 a23 (gp true y11 (vGStmt y2) (fun hc => vl) (gcall_step (p := true) (b := y11) (m := iStmtSize y2) (dflt := default) (args := [(vGStmt y2)]) (v' := (fun y => (vI y))) h (by kernel_rfl) (OK_iStmtSize y2) (fun hc => by kernel_rfl) (by kernel_rfl) (fun _ => rfl) (fun hc => (Eq.trans (b := ([(true && (y11 == true))] : List Bool).all id) (by kernel_rfl) (all_c hc rfl))) ?_))
   clear h; intro y12 h
   refine gp true y11 (vI x6) (fun hc => vl) (gp true y11 (vB (decide (y12 = x6))) (fun hc => vop_val1 (Eq.trans (b := ([(true && (y11 == true)), (true && (y11 == true))] : List Bool).all id) (by kernel_rfl) (all_c hc (all_c hc rfl))) (by kernel_rfl)) ?_)
   refine vs (fun (y : Bool) => (vB y)) h (fun y hy => vop_pickV hy (p := (true && (y11 == true))) (q := true) (by kernel_rfl) (by kernel_rfl) (by kernel_rfl) (by kernel_rfl) (fun hb => gc_t rfl hb) (fun _ => rfl)) fun y13 h => ?_
   let a24 : St := a23.p [(2, (vB y13)), (54, (vB y13)), (53, (.ite (gT y11) (vB (decide (y12 = x6))))), (52, (.ite (gT y11) (vI x6))), (51, (.ite (gT y11) (vI y12))), (50, (.ite (gT y11) (vGStmt y2)))]
   refine st 1 a24 (nx (ri ?_))
   injection h with h; subst h
   exact r1 (v := (vB y13))
theorem OK_wFnStmtParts_L0 (y3 : (List GExpr)) (y2 : GStmt) (x5 : Int) (x6 : Int) (x7 : Int) (r : Bool) (h : wFnStmtParts_L0 y3 y2 x5 x6 x7 = some r) : avc Try.prog acwFnStmtParts_L0 (qwFnStmtParts_1 r) (stwFnStmtParts_L0 y3 y2 x5 x6 x7) := (OKs_wFnStmtParts_L0 y3 y2) x5 x6 x7 r h
theorem OK_wFnStmtParts (p0 : (List Int)) : FOk Try.prog 4 [(.d (.sl 1 (p0.map cU8)))] (fun y => (vB y)) (wFnStmtParts p0) := by
 intro r h
 rw [wFnStmtParts] at h
 refine aof trwFnStmtParts ?_
 show avc Try.prog acwFnStmtParts (qwFnStmtParts _) ⟨[(0, (.d (.sl 1 (p0.map cU8))))], []⟩
 delta acwFnStmtParts
 refine so ?_
 let a0 : St := ⟨[(2, (vB false)), (0, (.d (.sl 1 (p0.map cU8))))], []⟩
 refine st 1 a0 (nx (si (so ?_)))
 let a1 : St := a0.p [(8, (.d (.sl 1 (p0.map cU8))))]
 refine st 1 a1 (cs h (OK_wBig p0) fun y1 h => (nx ?_))
 refine cd h (fun h => ?_) fun h => ?_
 refine so ?_
 let a2 : St := a1.p [(2, (vB true)), (9, (vB y1))]
 refine st 1 a2 (nx (ri (tr ?_)))
 injection h with h; subst h
 exact r1 (v := (vB true))
 refine ki (xi (so ?_))
 let a3 : St := a1.p [(10, (.d (.sl 1 (p0.map cU8)))), (9, (vB y1))]
 refine st 1 a3 (cs h (OK_sDrawStmtDepth p0) fun y2 h => ?_)
 let a4 : St := ⟨(3, (.ptr 3 0)) :: (11, (vGStmt y2)) :: a3.env, [(3, bGStmt y2)]⟩
 refine st 2 a4 (nx (so ?_))
 let a5 : St := a4.p [(12, (vGStmt y2))]
 refine st 1 a5 (cs h (OK_iExprsOf y2) fun y3 h => ?_)
 let a6 : St := a5.p [(4, (.d (.sl 10 (y3.map cGExpr)))), (13, (.d (.sl 10 (y3.map cGExpr))))]
 refine st 1 a6 (nx (so ?_))
 let a7 : St := a6.p [(5, (vI 0))]
 refine st 1 a7 (nx (so ?_))
 let a8 : St := a7.p [(6, (vI 0))]
 refine st 1 a8 (nx (si (so ?_)))
 let a9 : St := a8.p [(7, (vI 0))]
 exact st 1 a9 (nx (bi (loop_go (s' := stwFnStmtParts_L0 y3 y2 0 0 0) (wr [] (es (es (es (es (es er_nil))))) (bs_ br_nil)) (OK_wFnStmtParts_L0 y3 y2 0 0 0 _ h))))
theorem law_wFnStmtParts (hp : ∀ (x0 : (List Int)) (_ : (okL okU8) x0), wFnStmtParts x0 = some true) (ls : List (List D)) (hw : WtA Try.prog [22] ls) (hok : ∀ l ∈ ls, ∀ x ∈ l, OkD x) : ACalls Try.prog 4 (argsV Try.prog [22] ls) [] fun x _ => x = .d (.b true) := by
  rcases hw with _ | ⟨h0, hw⟩
  cases hw
  obtain ⟨x0, rfl⟩ := de22 h0
  have a0 : argV Try.prog 22 ((cSl 1 cU8) x0) = (.d (.sl 1 (x0.map cU8))) := by kernel_rfl
  have k0 : ∀ d ∈ (cSl 1 cU8) x0, OkD d := hok _ (by simp)
  simp only [argsV, a0]
  exact OK_wFnStmtParts x0 true (hp x0 (ko_l _ (fun y hy => ko_u8 _ hy) k0))
end Go.Proofs.Ytcfkipkafnlliaa
