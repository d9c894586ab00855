/- That the code computes these functions (printed by a program). -/
import Derived.Test.YtechmmnknmdacaaGreatDoorCExactSqueeze0
namespace Go.Proofs.YtechmmnknmdacaaGreatDoor
open Go Go.RowKit Go.Ab
theorem OK_sL3One (p0 : (List UInt8)) (p1 : Int) : FOk Tryz.prog 72 [(vS p0), (vI p1)] (fun y => (.tup [(vGToken y.1), (vI y.2)])) (sL3One p0 p1) := by
 intro r h
 rw [sL3One] at h
 refine aof trsL3One ?_
 show avc Tryz.prog acsL3One (qsL3One _) ⟨[(0, (vS p0)), (1, (vI p1))], []⟩
 delta acsL3One
 refine so ?_
 let a0 : St := ⟨[(5, (vI 0)), (4, (.ptr 4 0)), (0, (vS p0)), (1, (vI p1))], [(4, [(vI 0), (vS []), (vI 0)])]⟩
 refine st 2 a0 (nx (so ?_))
 let a1 : St := ⟨(6, (.ptr 6 0)) :: (9, (vGToken (GToken.mk 0 [] p1))) :: (8, (vI p1)) :: a0.env, [(6, bGToken (GToken.mk 0 [] p1)), (4, [(vI 0), (vS []), (vI 0)])]⟩
 refine st 4 a1 (nx (so ?_))
 let a2 : St := a1.p [(7, (vI (IntKind.wrap .i64 (p1 + 1)))), (11, (vI (IntKind.wrap .i64 (p1 + 1)))), (10, (vI p1))]
 refine st 3 a2 (nx (si (bi (so ?_))))
 let a3 : St := a2.p [(35, (vI p1)), (34, (vS p0))]
 refine st 2 a3 (vs (fun (y : Int) => (.d (.i .u8 y))) h (fun y hy => vop_ix (b := p0) (k := .i64) hy (by kernel_rfl) (by kernel_rfl) (by kernel_rfl)) fun y1 h => (cs h (OK_sL2Letter y1) fun y2 h => ?_))
 let a4 : St := a3.p [(33, (vB y2)), (37, (vB y2)), (36, (.d (.i .u8 y1)))]
 refine st 1 a4 (nx ?_)
 refine cd h (fun h => ?_) fun h => ?_
 refine so ?_
 let a5 : St := a4.p [(39, (vI p1)), (38, (vS p0))]
 refine st 2 a5 (cs h (OK_sL3Run p0 p1) fun y3 h => ?_)
 let a6 : St := a5.p [(7, (vI y3)), (40, (vI y3))]
 refine st 1 a6 (nx (so ?_))
 let a7 : St := ⟨(41, (.ptr 6 0)) :: a6.env, [(6, bGToken (GToken.mk 2 [] p1)), (4, [(vI 0), (vS []), (vI 0)])]⟩
 refine st 2 a7 (nx (so ?_))
 let a8 : St := a7.p [(44, (vI y3)), (43, (vI p1)), (42, (vS p0))]
 refine st 3 a8 (vs (fun (y : (List UInt8)) => (vS y)) h (fun y hy => vop_sls (b := p0) (lo := p1) (hi := y3) hy (by kernel_rfl) (by kernel_rfl) ⟨(by kernel_rfl), .i64, (by kernel_rfl)⟩ ⟨(by kernel_rfl), .i64, (by kernel_rfl)⟩) fun y4 h => ?_)
 let a9 : St := ⟨(46, (.ptr 6 1)) :: (45, (vS y4)) :: a8.env, [(6, bGToken (GToken.mk 2 y4 p1)), (4, [(vI 0), (vS []), (vI 0)])]⟩
 refine st 2 a9 (nx (so ?_))
 let a10 : St := a9.p [(48, (vS y4)), (47, (.ptr 6 1))]
 refine st 2 a10 (cs h (OK_sKeyOf y4) fun y5 h => ?_)
 let a11 : St := a10.p [(50, (vB (decide (0 < y5)))), (49, (vI y5))]
 refine st 1 a11 (nx ?_)
 refine cd h (fun h => ?_) fun h => ?_
 refine so ?_
 let a12 : St := ⟨(51, (.ptr 6 0)) :: a11.env, [(6, bGToken (GToken.mk 1 y4 p1)), (4, [(vI 0), (vS []), (vI 0)])]⟩
 refine st 2 a12 (nx (oi ?_))
 let a13 : St := a12.p [(53, (vS y4)), (52, (.ptr 6 1))]
 refine st 2 a13 (cs h (OK_sFold y4) fun y6 h => ?_)
 let a14 : St := ⟨(55, (.ptr 6 1)) :: (54, (vS y6)) :: a13.env, [(6, bGToken (GToken.mk 1 y6 p1)), (4, [(vI 0), (vS []), (vI 0)])]⟩
 exact st 2 a14 (ni (bn (next_step (s' := stsL3One_J0 p1 y3 1 y6) (wr [] (es (es (es er_nil))) (bs_ (bs_ br_nil))) (OK_sL3One_J0 p1 y3 1 y6 _ h))))
 exact ki (bn (next_step (s' := stsL3One_J0 p1 y3 2 y4) (wr [] (es (es (es er_nil))) (bs_ (bs_ br_nil))) (OK_sL3One_J0 p1 y3 2 y4 _ h)))
 refine so ?_
 let a15 : St := a4.p [(58, (vI p1)), (57, (vS p0))]
 refine st 2 a15 (vs (fun (y : Int) => (.d (.i .u8 y))) h (fun y hy => vop_ix (b := p0) (k := .i64) hy (by kernel_rfl) (by kernel_rfl) (by kernel_rfl)) fun y7 h => (cs h (OK_sL2Figure y7) fun y8 h => ?_))
 let a16 : St := a15.p [(56, (vB y8)), (60, (vB y8)), (59, (.d (.i .u8 y7)))]
 refine st 1 a16 (nx ?_)
 refine cd h (fun h => ?_) fun h => ?_
 refine so ?_
 let a17 : St := a16.p [(62, (vI p1)), (61, (vS p0))]
 refine st 2 a17 (cs h (OK_sL3Run p0 p1) fun y9 h => ?_)
 let a18 : St := a17.p [(7, (vI y9)), (63, (vI y9))]
 refine st 1 a18 (nx (so ?_))
 let a19 : St := ⟨(64, (.ptr 6 0)) :: a18.env, [(6, bGToken (GToken.mk 3 [] p1)), (4, [(vI 0), (vS []), (vI 0)])]⟩
 refine st 2 a19 (nx (oi ?_))
 let a20 : St := a19.p [(67, (vI y9)), (66, (vI p1)), (65, (vS p0))]
 refine st 3 a20 (vs (fun (y : (List UInt8)) => (vS y)) h (fun y hy => vop_sls (b := p0) (lo := p1) (hi := y9) hy (by kernel_rfl) (by kernel_rfl) ⟨(by kernel_rfl), .i64, (by kernel_rfl)⟩ ⟨(by kernel_rfl), .i64, (by kernel_rfl)⟩) fun y10 h => ?_)
 let a21 : St := ⟨(69, (.ptr 6 1)) :: (68, (vS y10)) :: a20.env, [(6, bGToken (GToken.mk 3 y10 p1)), (4, [(vI 0), (vS []), (vI 0)])]⟩
 exact st 2 a21 (ni (bn (next_step (s' := stsL3One_J0 p1 y9 3 y10) (wr [] (es (es (es er_nil))) (bs_ (bs_ br_nil))) (OK_sL3One_J0 p1 y9 3 y10 _ h))))
 refine so ?_
 let a22 : St := a16.p [(72, (vI p1)), (71, (vS p0))]
 refine st 2 a22 (vs (fun (y : Int) => (.d (.i .u8 y))) h (fun y hy => vop_ix (b := p0) (k := .i64) hy (by kernel_rfl) (by kernel_rfl) (by kernel_rfl)) fun y11 h => ?_)
 let a23 : St := a22.p [(70, (vB (decide (y11 = 34)))), (74, (vB (decide (y11 = 34)))), (73, (.d (.i .u8 y11)))]
 refine st 2 a23 (nx ?_)
 refine cd h (fun h => ?_) fun h => ?_
 refine so ?_
 let a24 : St := ⟨(75, (.ptr 6 0)) :: a23.env, [(6, bGToken (GToken.mk 2 [] p1)), (4, [(vI 0), (vS []), (vI 0)])]⟩
 refine st 2 a24 (nx (oi ?_))
 let a25 : St := a24.p [(78, (vI p1)), (77, (vS p0))]
 refine st 2 a25 (cs h (OK_sL3Quoted p0 p1) fun y12 h => ?_)
 let a26 : St := ⟨(7, (vI y12.2)) :: (82, (.ptr 6 1)) :: (81, (vI y12.2)) :: (80, (vS y12.1)) :: (76, (.tup [(vS y12.1), (vI y12.2)])) :: (79, (.tup [(vS y12.1), (vI y12.2)])) :: a25.env, [(6, bGToken (GToken.mk 2 y12.1 p1)), (4, [(vI 0), (vS []), (vI 0)])]⟩
 exact st 6 a26 (ni (bn (next_step (s' := stsL3One_J0 p1 y12.2 2 y12.1) (wr [] (es (es (es er_nil))) (bs_ (bs_ br_nil))) (OK_sL3One_J0 p1 y12.2 2 y12.1 _ h))))
 refine so ?_
 let a27 : St := a23.p [(85, (vI p1)), (84, (vS p0))]
 refine st 2 a27 (vs (fun (y : Int) => (.d (.i .u8 y))) h (fun y hy => vop_ix (b := p0) (k := .i64) hy (by kernel_rfl) (by kernel_rfl) (by kernel_rfl)) fun y13 h => ?_)
 let a28 : St := a27.p [(83, (vB (decide (y13 = 39)))), (87, (vB (decide (y13 = 39)))), (86, (.d (.i .u8 y13)))]
 refine st 2 a28 (nx ?_)
 refine cd h (fun h => ?_) fun h => ?_
 refine so ?_
 let a29 : St := ⟨(88, (.ptr 6 0)) :: a28.env, [(6, bGToken (GToken.mk 4 [] p1)), (4, [(vI 0), (vS []), (vI 0)])]⟩
 refine st 2 a29 (nx (oi ?_))
 let a30 : St := a29.p [(91, (vI p1)), (90, (vS p0))]
 refine st 2 a30 (cs h (OK_sL3Quoted p0 p1) fun y14 h => ?_)
 let a31 : St := ⟨(7, (vI y14.2)) :: (95, (.ptr 6 1)) :: (94, (vI y14.2)) :: (93, (vS y14.1)) :: (89, (.tup [(vS y14.1), (vI y14.2)])) :: (92, (.tup [(vS y14.1), (vI y14.2)])) :: a30.env, [(6, bGToken (GToken.mk 4 y14.1 p1)), (4, [(vI 0), (vS []), (vI 0)])]⟩
 exact st 6 a31 (ni (bn (next_step (s' := stsL3One_J0 p1 y14.2 4 y14.1) (wr [] (es (es (es er_nil))) (bs_ (bs_ br_nil))) (OK_sL3One_J0 p1 y14.2 4 y14.1 _ h))))
 refine so ?_
 let a32 : St := ⟨(12, (.ptr 6 0)) :: a28.env, [(6, bGToken (GToken.mk 5 [] p1)), (4, [(vI 0), (vS []), (vI 0)])]⟩
 refine st 2 a32 (nx (si (so ?_)))
 let a33 : St := a32.p [(18, (vB (decide ((IntKind.wrap .i64 (p1 + 2)) ≤ (ln p0))))), (17, (vB (decide ((IntKind.wrap .i64 (p1 + 2)) ≤ (ln p0))))), (16, (vI (ln p0))), (15, (vS p0)), (14, (vI (IntKind.wrap .i64 (p1 + 2)))), (13, (vI p1))]
 refine st 6 a33 (gp true (decide ((IntKind.wrap .i64 (p1 + 2)) ≤ (ln p0))) (vS p0) (fun hc => vl) (gp true (decide ((IntKind.wrap .i64 (p1 + 2)) ≤ (ln p0))) (vI p1) (fun hc => vl) (gp true (decide ((IntKind.wrap .i64 (p1 + 2)) ≤ (ln p0))) (vI p1) (fun hc => vl) (gp true (decide ((IntKind.wrap .i64 (p1 + 2)) ≤ (ln p0))) (vI (IntKind.wrap .i64 (p1 + 2))) (fun hc => vg hc) ?_))))
 refine gv true (decide ((IntKind.wrap .i64 (p1 + 2)) ≤ (ln p0))) (fun (y : (List UInt8)) => (vS y)) h (fun y hy hc => vop_sls (b := p0) (lo := p1) (hi := (IntKind.wrap .i64 (p1 + 2))) hy (Eq.trans (b := ([(true && ((decide ((IntKind.wrap .i64 (p1 + 2)) ≤ (ln p0))) == true))] : List Bool).all id) (by kernel_rfl) (all_c hc rfl)) (by kernel_rfl) ⟨(Eq.trans (b := ([(true && ((decide ((IntKind.wrap .i64 (p1 + 2)) ≤ (ln p0))) == true))] : List Bool).all id) (by kernel_rfl) (all_c hc rfl)), .i64, (by kernel_rfl)⟩ ⟨(Eq.trans (b := ([(true && ((decide ((IntKind.wrap .i64 (p1 + 2)) ≤ (ln p0))) == true))] : List Bool).all id) (by kernel_rfl) (all_c hc rfl)), .i64, (by kernel_rfl)⟩) fun y15 h => ?_
 refine gcall_step (p := true) (b := (decide ((IntKind.wrap .i64 (p1 + 2)) ≤ (ln p0)))) (m := sSignOk y15) (dflt := default) (args := [(vS y15)]) (v' := (fun y => (vB y))) h (by kernel_rfl) (OK_sSignOk y15) (fun hc => by kernel_rfl) (by kernel_rfl) (fun _ => rfl) (fun hc => (Eq.trans (b := ([(true && ((decide ((IntKind.wrap .i64 (p1 + 2)) ≤ (ln p0))) == true))] : List Bool).all id) (by kernel_rfl) (all_c hc rfl))) ?_
 clear h; intro y16 h
 refine vs (fun (y : Bool) => (vB y)) h (fun y hy => vop_pickV hy (p := (true && ((decide ((IntKind.wrap .i64 (p1 + 2)) ≤ (ln p0))) == true))) (q := true) (by kernel_rfl) (by kernel_rfl) (by kernel_rfl) (by kernel_rfl) (fun hb => gc_t rfl hb) (fun _ => rfl)) fun y17 h => (nx ?_)
 refine cd h (fun h => ?_) fun h => ?_
 refine oi ?_
 let a34 : St := a33.p [(7, (vI (IntKind.wrap .i64 (p1 + 2)))), (27, (vI (IntKind.wrap .i64 (p1 + 2)))), (26, (vI p1)), (25, (vB y17)), (24, (.ite (true && ((decide ((IntKind.wrap .i64 (p1 + 2)) ≤ (ln p0))) == true)) (vB y16))), (23, (.ite (true && ((decide ((IntKind.wrap .i64 (p1 + 2)) ≤ (ln p0))) == true)) (vS y15))), (22, (.ite (true && ((decide ((IntKind.wrap .i64 (p1 + 2)) ≤ (ln p0))) == true)) (vI (IntKind.wrap .i64 (p1 + 2))))), (21, (.ite (true && ((decide ((IntKind.wrap .i64 (p1 + 2)) ≤ (ln p0))) == true)) (vI p1))), (20, (.ite (true && ((decide ((IntKind.wrap .i64 (p1 + 2)) ≤ (ln p0))) == true)) (vI p1))), (19, (.ite (true && ((decide ((IntKind.wrap .i64 (p1 + 2)) ≤ (ln p0))) == true)) (vS p0)))]
 exact st 3 a34 (ni (next_step (s' := stsL3One_J1 p0 p1 (IntKind.wrap .i64 (p1 + 2))) (wr [] (es (es (es (es (es er_nil))))) (bs_ (bs_ br_nil))) (OK_sL3One_J1 p0 p1 (IntKind.wrap .i64 (p1 + 2)) _ h)))
 exact ki (next_step (s' := stsL3One_J1 p0 p1 (IntKind.wrap .i64 (p1 + 1))) (wr [] (es (es (es (es (es er_nil))))) (bs_ (bs_ br_nil))) (OK_sL3One_J1 p0 p1 (IntKind.wrap .i64 (p1 + 1)) _ h))
theorem OK_sL1Min (p0 : Int) (p1 : Int) : FOk Tryz.prog 115 [(vI p0), (vI p1)] (fun y => (vI y)) (sL1Min p0 p1) := by
 intro r h
 rw [sL1Min] at h
 refine aof trsL1Min ?_
 show avc Tryz.prog acsL1Min (qsL1Min _) ⟨[(0, (vI p0)), (1, (vI p1))], []⟩
 delta acsL1Min
 refine so ?_
 let a0 : St := ⟨[(4, (vI 0)), (0, (vI p0)), (1, (vI p1))], []⟩
 refine st 1 a0 (nx (si (so ?_)))
 let a1 : St := a0.p [(7, (vB (decide (p0 < p1)))), (6, (vI p1)), (5, (vI p0))]
 refine st 3 a1 (nx ?_)
 refine cd h (fun h => ?_) fun h => ?_
 refine so ?_
 let a2 : St := a1.p [(4, (vI p0)), (8, (vI p0))]
 refine st 2 a2 (nx (ri (tr ?_)))
 injection h with h; subst h
 exact r1 (v := (vI p0))
 refine ki (xi (so ?_))
 let a3 : St := a1.p [(4, (vI p1)), (9, (vI p1))]
 refine st 2 a3 (nx (ri ?_))
 injection h with h; subst h
 exact r1 (v := (vI p1))
theorem OKs_sL3Pass_L2 (p0 : (List UInt8)) : (∀ (x1 : Int) (x6 : Int) (r : Int), sL3Pass_L2 p0 x1 x6 = some r → avc Tryz.prog acsL3Pass_L2 (qsL3Pass_7 r) (stsL3Pass_L2 p0 x1 x6)) ∧ (∀ (x1 : Int) (r : Int), sL3Pass_L0 p0 x1 = some r → avc Tryz.prog acsL3Pass_L0 (qsL3Pass_1 r) (stsL3Pass_L0 p0 x1)) ∧ (∀ (x1_10 : Int) (r : Int), sL3Pass_L1 p0 x1_10 = some r → avc Tryz.prog acsL3Pass_L1 (qsL3Pass_5 r) (stsL3Pass_L1 p0 x1_10)) := by
 refine sL3Pass_L2.mutual_partial_correctness p0 (fun x1 x6 r => avc Tryz.prog acsL3Pass_L2 (qsL3Pass_7 r) (stsL3Pass_L2 p0 x1 x6)) (fun x1 r => avc Tryz.prog acsL3Pass_L0 (qsL3Pass_1 r) (stsL3Pass_L0 p0 x1)) (fun x1_10 r => avc Tryz.prog acsL3Pass_L1 (qsL3Pass_5 r) (stsL3Pass_L1 p0 x1_10)) ?_ ?_ ?_
 · intro F_sL3Pass_L2 F_sL3Pass_L0 OK_sL3Pass_L2 OK_sL3Pass_L0 x1 x6 r h
   delta acsL3Pass_L2
   refine loop_unroll (si (so ?_))
   let a17 : St := (stsL3Pass_L2 p0 x1 x6).p [(69, (vB (decide (x6 < (ln p0))))), (68, (vB (decide (x6 < (ln p0))))), (67, (vI (ln p0))), (66, (vS p0)), (65, (vI x6))]
   refine st 5 a17 (gp true (decide (x6 < (ln p0))) (vS p0) (fun hc => vl) (gp true (decide (x6 < (ln p0))) (vI x6) (fun hc => vl) (gp true (decide (x6 < (ln p0))) (vS p0) (fun hc => vl) (gp true (decide (x6 < (ln p0))) (vI (ln p0)) (fun hc => vg hc) (gp true (decide (x6 < (ln p0))) (vI x6) (fun hc => vl) ?_)))))
   refine gp true (decide (x6 < (ln p0))) (vI (IntKind.wrap .i64 (x6 + 2))) (fun hc => vg hc) ?_
   refine gcall_step (p := true) (b := (decide (x6 < (ln p0)))) (m := sL1Min (ln p0) (IntKind.wrap .i64 (x6 + 2))) (dflt := default) (args := [(vI (ln p0)), (vI (IntKind.wrap .i64 (x6 + 2)))]) (v' := (fun y => (vI y))) h (by kernel_rfl) (OK_sL1Min (ln p0) (IntKind.wrap .i64 (x6 + 2))) (fun hc => by kernel_rfl) (by kernel_rfl) (fun _ => rfl) (fun hc => (Eq.trans (b := ([(true && ((decide (x6 < (ln p0))) == true)), (true && ((decide (x6 < (ln p0))) == true))] : List Bool).all id) (by kernel_rfl) (all_c hc (all_c hc rfl)))) ?_
   clear h; intro y13 h
   refine gv true (decide (x6 < (ln p0))) (fun (y : (List UInt8)) => (vS y)) h (fun y hy hc => vop_sls (b := p0) (lo := x6) (hi := y13) hy (Eq.trans (b := ([(true && ((decide (x6 < (ln p0))) == true))] : List Bool).all id) (by kernel_rfl) (all_c hc rfl)) (by kernel_rfl) ⟨(Eq.trans (b := ([(true && ((decide (x6 < (ln p0))) == true))] : List Bool).all id) (by kernel_rfl) (all_c hc rfl)), .i64, (by kernel_rfl)⟩ ⟨(Eq.trans (b := ([(true && ((decide (x6 < (ln p0))) == true))] : List Bool).all id) (by kernel_rfl) (all_c hc rfl)), .i64, (by kernel_rfl)⟩) fun y14 h => ?_
   refine gp true (decide (x6 < (ln p0))) (vB (!decide (y14 = [42, 47]))) (fun hc => vg hc) (vs (fun (y : Bool) => (vB y)) h (fun y hy => vop_pickV hy (p := (true && ((decide (x6 < (ln p0))) == true))) (q := true) (by kernel_rfl) (by kernel_rfl) (by kernel_rfl) (by kernel_rfl) (fun hb => gc_t rfl hb) (fun _ => rfl)) fun y15 h => (nx ?_))
   refine cd h (fun h => ?_) fun h => ?_
   refine ki (xi (bi (oi ?_)))
   let a18 : St := a17.p [(6, (vI (IntKind.wrap .i64 (x6 + 1)))), (81, (vI (IntKind.wrap .i64 (x6 + 1)))), (80, (vI x6)), (79, (vB y15)), (78, (.ite (true && ((decide (x6 < (ln p0))) == true)) (vB (!decide (y14 = [42, 47]))))), (77, (.ite (true && ((decide (x6 < (ln p0))) == true)) (vS y14))), (76, (.ite (true && ((decide (x6 < (ln p0))) == true)) (vI y13))), (75, (.ite (true && ((decide (x6 < (ln p0))) == true)) (vI (IntKind.wrap .i64 (x6 + 2))))), (74, (.ite (true && ((decide (x6 < (ln p0))) == true)) (vI x6))), (73, (.ite (true && ((decide (x6 < (ln p0))) == true)) (vI (ln p0)))), (72, (.ite (true && ((decide (x6 < (ln p0))) == true)) (vS p0))), (71, (.ite (true && ((decide (x6 < (ln p0))) == true)) (vI x6))), (70, (.ite (true && ((decide (x6 < (ln p0))) == true)) (vS p0)))]
   exact st 3 a18 (ni (bn (loop_back (s' := stsL3Pass_L2 p0 x1 (IntKind.wrap .i64 (x6 + 1))) (wr [] (es (es (es er_nil))) br_nil) (OK_sL3Pass_L2 x1 (IntKind.wrap .i64 (x6 + 1)) _ h))))
   refine ei (te (te (bh (xi (si (so ?_))))))
   let a19 : St := a17.p [(85, (vB (decide ((ln p0) ≤ x6)))), (84, (vI (ln p0))), (83, (vS p0)), (82, (vI x6)), (79, (vB y15)), (78, (.ite (true && ((decide (x6 < (ln p0))) == true)) (vB (!decide (y14 = [42, 47]))))), (77, (.ite (true && ((decide (x6 < (ln p0))) == true)) (vS y14))), (76, (.ite (true && ((decide (x6 < (ln p0))) == true)) (vI y13))), (75, (.ite (true && ((decide (x6 < (ln p0))) == true)) (vI (IntKind.wrap .i64 (x6 + 2))))), (74, (.ite (true && ((decide (x6 < (ln p0))) == true)) (vI x6))), (73, (.ite (true && ((decide (x6 < (ln p0))) == true)) (vI (ln p0)))), (72, (.ite (true && ((decide (x6 < (ln p0))) == true)) (vS p0))), (71, (.ite (true && ((decide (x6 < (ln p0))) == true)) (vI x6))), (70, (.ite (true && ((decide (x6 < (ln p0))) == true)) (vS p0)))]
   refine st 4 a19 (nx ?_)
   refine cd h (fun h => ?_) fun h => ?_
   refine so ?_
   let a20 : St := a19.p [(4, (vI (IntKind.wrap .i64 ((IntKind.wrap .i64 (0 - x1)) - 1)))), (88, (vI (IntKind.wrap .i64 ((IntKind.wrap .i64 (0 - x1)) - 1)))), (87, (vI (IntKind.wrap .i64 (0 - x1)))), (86, (vI x1))]
   refine st 4 a20 (nx (ri (tr (br (br (tr (br (tr ?_))))))))
   injection h with h; subst h
   exact r1 (v := (vI (IntKind.wrap .i64 ((IntKind.wrap .i64 (0 - x1)) - 1))))
   refine ki (xi (oi ?_))
   let a21 : St := a19.p [(1, (vI (IntKind.wrap .i64 (x6 + 2)))), (90, (vI (IntKind.wrap .i64 (x6 + 2)))), (89, (vI x6))]
   exact st 3 a21 (ni (bn (bn (loop_back (s' := stsL3Pass_L0 p0 (IntKind.wrap .i64 (x6 + 2))) (wr [] (es (es er_nil)) br_nil) (OK_sL3Pass_L0 (IntKind.wrap .i64 (x6 + 2)) _ h)))))
 · intro F_sL3Pass_L2 F_sL3Pass_L0 F_sL3Pass_L1 OK_sL3Pass_L2 OK_sL3Pass_L0 OK_sL3Pass_L1 x1 r h
   delta acsL3Pass_L0
   refine loop_unroll (si (so ?_))
   let a1 : St := (stsL3Pass_L0 p0 x1).p [(10, (vB (decide (x1 < (ln p0))))), (9, (vI (ln p0))), (8, (vS p0)), (7, (vI x1))]
   refine st 4 a1 (nx ?_)
   refine cd h (fun h => ?_) fun h => ?_
   refine ki (xi (bi (so ?_)))
   let a2 : St := a1.p [(16, (vI (IntKind.wrap .i64 (x1 + 2)))), (15, (vI x1)), (14, (vI (ln p0))), (13, (vS p0)), (12, (vI x1)), (11, (vS p0))]
   refine st 6 a2 (cs h (OK_sL1Min (ln p0) (IntKind.wrap .i64 (x1 + 2))) fun y1 h => (vs (fun (y : (List UInt8)) => (vS y)) h (fun y hy => vop_sls (b := p0) (lo := x1) (hi := y1) hy (by kernel_rfl) (by kernel_rfl) ⟨(by kernel_rfl), .i64, (by kernel_rfl)⟩ ⟨(by kernel_rfl), .i64, (by kernel_rfl)⟩) fun y2 h => ?_))
   let a3 : St := a2.p [(5, (vS y2)), (18, (vS y2)), (17, (vI y1))]
   refine st 1 a3 (nx (bi (so ?_)))
   let a4 : St := a3.p [(22, (vI x1)), (21, (vS p0))]
   refine st 2 a4 (vs (fun (y : Int) => (.d (.i .u8 y))) h (fun y hy => vop_ix (b := p0) (k := .i64) hy (by kernel_rfl) (by kernel_rfl) (by kernel_rfl)) fun y3 h => ?_)
   let a5 : St := a4.p [(25, (vB (decide (y3 = 32)))), (24, (vB (decide (y3 = 32)))), (23, (.d (.i .u8 y3)))]
   refine st 2 a5 (gp true (decide (y3 = 32)) (vS p0) (fun hc => vl) (gp true (decide (y3 = 32)) (vI x1) (fun hc => vl) ?_))
   refine gv true (decide (y3 = 32)) (fun (y : Int) => (.d (.i .u8 y))) h (fun y hy hc => vop_ix (b := p0) (k := .i64) hy (Eq.trans (b := ([(true && ((decide (y3 = 32)) == false)), (true && ((decide (y3 = 32)) == false))] : List Bool).all id) (by kernel_rfl) (all_c hc (all_c hc rfl))) (by kernel_rfl) (by kernel_rfl)) fun y4 h => (gp true (decide (y3 = 32)) (vB (decide (y4 = 9))) (fun hc => vg hc) ?_)
   refine vs (fun (y : Bool) => (vB y)) h (fun y hy => vop_pickV hy (p := true) (q := (true && ((decide (y3 = 32)) == false))) (by kernel_rfl) (by kernel_rfl) (by kernel_rfl) (by kernel_rfl) (fun _ => rfl) (fun hb => gc_f rfl hb)) fun y5 h => ?_
   let a6 : St := a5.p [(31, (vB y5)), (30, (vB y5)), (29, (.ite (true && ((decide (y3 = 32)) == false)) (vB (decide (y4 = 9))))), (28, (.ite (true && ((decide (y3 = 32)) == false)) (.d (.i .u8 y4)))), (27, (.ite (true && ((decide (y3 = 32)) == false)) (vI x1))), (26, (.ite (true && ((decide (y3 = 32)) == false)) (vS p0)))]
   refine st 1 a6 (gp true y5 (vS p0) (fun hc => vl) (gp true y5 (vI x1) (fun hc => vl) (gv true y5 (fun (y : Int) => (.d (.i .u8 y))) h (fun y hy hc => vop_ix (b := p0) (k := .i64) hy (Eq.trans (b := ([(true && (y5 == false)), (true && (y5 == false))] : List Bool).all id) (by kernel_rfl) (all_c hc (all_c hc rfl))) (by kernel_rfl) (by kernel_rfl)) fun y6 h => (gp true y5 (vB (decide (y6 = 10))) (fun hc => vg hc) ?_))))
   refine vs (fun (y : Bool) => (vB y)) h (fun y hy => vop_pickV hy (p := true) (q := (true && (y5 == false))) (by kernel_rfl) (by kernel_rfl) (by kernel_rfl) (by kernel_rfl) (fun _ => rfl) (fun hb => gc_f rfl hb)) fun y7 h => ?_
   let a7 : St := a6.p [(37, (vB y7)), (36, (vB y7)), (35, (.ite (gF y5) (vB (decide (y6 = 10))))), (34, (.ite (gF y5) (.d (.i .u8 y6)))), (33, (.ite (gF y5) (vI x1))), (32, (.ite (gF y5) (vS p0)))]
   refine st 1 a7 (gp true y7 (vS p0) (fun hc => vl) (gp true y7 (vI x1) (fun hc => vl) (gv true y7 (fun (y : Int) => (.d (.i .u8 y))) h (fun y hy hc => vop_ix (b := p0) (k := .i64) hy (Eq.trans (b := ([(true && (y7 == false)), (true && (y7 == false))] : List Bool).all id) (by kernel_rfl) (all_c hc (all_c hc rfl))) (by kernel_rfl) (by kernel_rfl)) fun y8 h => (gp true y7 (vB (decide (y8 = 13))) (fun hc => vg hc) ?_))))
   refine vs (fun (y : Bool) => (vB y)) h (fun y hy => vop_pickV hy (p := true) (q := (true && (y7 == false))) (by kernel_rfl) (by kernel_rfl) (by kernel_rfl) (by kernel_rfl) (fun _ => rfl) (fun hb => gc_f rfl hb)) fun y9 h => ?_
   let a8 : St := a7.p [(20, (vB y9)), (42, (vB y9)), (41, (.ite (gF y7) (vB (decide (y8 = 13))))), (40, (.ite (gF y7) (.d (.i .u8 y8)))), (39, (.ite (gF y7) (vI x1))), (38, (.ite (gF y7) (vS p0)))]
   refine st 1 a8 (nx ?_)
   refine cd h (fun h => ?_) fun h => ?_
   refine oi ?_
   let a9 : St := a8.p [(1, (vI (IntKind.wrap .i64 (x1 + 1)))), (44, (vI (IntKind.wrap .i64 (x1 + 1)))), (43, (vI x1))]
   exact st 3 a9 (ni (bn (bn (loop_back (s' := stsL3Pass_L0 p0 (IntKind.wrap .i64 (x1 + 1))) (wr [] (es (es er_nil)) br_nil) (OK_sL3Pass_L0 (IntKind.wrap .i64 (x1 + 1)) _ h)))))
   refine so ?_
   let a10 : St := a8.p [(45, (vB (decide (y2 = [45, 45])))), (47, (vB (decide (y2 = [45, 45])))), (46, (vS y2))]
   refine st 3 a10 (nx ?_)
   refine cd h (fun h => ?_) fun h => ?_
   exact bi (loop_go (s' := stsL3Pass_L1 p0 x1) (wr [] (es (es er_nil)) br_nil) (OK_sL3Pass_L1 x1 _ h))
   refine so ?_
   let a11 : St := a10.p [(60, (vB (decide (y2 = [47, 42])))), (62, (vB (decide (y2 = [47, 42])))), (61, (vS y2))]
   refine st 3 a11 (nx ?_)
   refine cd h (fun h => ?_) fun h => ?_
   refine so ?_
   let a12 : St := a11.p [(6, (vI (IntKind.wrap .i64 (x1 + 2)))), (64, (vI (IntKind.wrap .i64 (x1 + 2)))), (63, (vI x1))]
   exact st 3 a12 (nx (si (bi (loop_go (s' := stsL3Pass_L2 p0 x1 (IntKind.wrap .i64 (x1 + 2))) (wr [] (es (es (es er_nil))) br_nil) (OK_sL3Pass_L2 x1 (IntKind.wrap .i64 (x1 + 2)) _ h)))))
   refine so ?_
   let a13 : St := a11.p [(4, (vI x1)), (19, (vI x1))]
   refine st 2 a13 (nx (ri (br (br (tr (br (tr ?_)))))))
   injection h with h; subst h
   exact r1 (v := (vI x1))
   refine ei (te (te (bh (xi (so ?_)))))
   let a14 : St := a1.p [(4, (vI x1)), (91, (vI x1))]
   refine st 2 a14 (nx (ri ?_))
   injection h with h; subst h
   exact r1 (v := (vI x1))
 · intro F_sL3Pass_L0 F_sL3Pass_L1 OK_sL3Pass_L0 OK_sL3Pass_L1 x1_10 r h
   delta acsL3Pass_L1
   refine loop_unroll (si (so ?_))
   let a15 : St := (stsL3Pass_L1 p0 x1_10).p [(52, (vB (decide (x1_10 < (ln p0))))), (51, (vB (decide (x1_10 < (ln p0))))), (50, (vI (ln p0))), (49, (vS p0)), (48, (vI x1_10))]
   refine st 5 a15 (gp true (decide (x1_10 < (ln p0))) (vS p0) (fun hc => vl) (gp true (decide (x1_10 < (ln p0))) (vI x1_10) (fun hc => vl) ?_))
   refine gv true (decide (x1_10 < (ln p0))) (fun (y : Int) => (.d (.i .u8 y))) h (fun y hy hc => vop_ix (b := p0) (k := .i64) hy (Eq.trans (b := ([(true && ((decide (x1_10 < (ln p0))) == true)), (true && ((decide (x1_10 < (ln p0))) == true))] : List Bool).all id) (by kernel_rfl) (all_c hc (all_c hc rfl))) (by kernel_rfl) (by kernel_rfl)) fun y11 h => ?_
   refine gp true (decide (x1_10 < (ln p0))) (vB (!decide (y11 = 10))) (fun hc => vg hc) (vs (fun (y : Bool) => (vB y)) h (fun y hy => vop_pickV hy (p := (true && ((decide (x1_10 < (ln p0))) == true))) (q := true) (by kernel_rfl) (by kernel_rfl) (by kernel_rfl) (by kernel_rfl) (fun hb => gc_t rfl hb) (fun _ => rfl)) fun y12 h => (nx ?_))
   refine cd h (fun h => ?_) fun h => ?_
   refine ki (xi (bi (oi ?_)))
   let a16 : St := a15.p [(1, (vI (IntKind.wrap .i64 (x1_10 + 1)))), (59, (vI (IntKind.wrap .i64 (x1_10 + 1)))), (58, (vI x1_10)), (57, (vB y12)), (56, (.ite (true && ((decide (x1_10 < (ln p0))) == true)) (vB (!decide (y11 = 10))))), (55, (.ite (true && ((decide (x1_10 < (ln p0))) == true)) (.d (.i .u8 y11)))), (54, (.ite (true && ((decide (x1_10 < (ln p0))) == true)) (vI x1_10))), (53, (.ite (true && ((decide (x1_10 < (ln p0))) == true)) (vS p0)))]
   exact st 3 a16 (ni (bn (loop_back (s' := stsL3Pass_L1 p0 (IntKind.wrap .i64 (x1_10 + 1))) (wr [] (es (es er_nil)) br_nil) (OK_sL3Pass_L1 (IntKind.wrap .i64 (x1_10 + 1)) _ h))))
   exact ei (te (te (bh (bn (bn (loop_back (s' := stsL3Pass_L0 p0 x1_10) (wr [] (es (es er_nil)) br_nil) (OK_sL3Pass_L0 x1_10 _ h)))))))
theorem OK_sL3Pass_L2 (p0 : (List UInt8)) (x1 : Int) (x6 : Int) (r : Int) (h : sL3Pass_L2 p0 x1 x6 = some r) : avc Tryz.prog acsL3Pass_L2 (qsL3Pass_7 r) (stsL3Pass_L2 p0 x1 x6) := (OKs_sL3Pass_L2 p0).1 x1 x6 r h
theorem OK_sL3Pass_L0 (p0 : (List UInt8)) (x1 : Int) (r : Int) (h : sL3Pass_L0 p0 x1 = some r) : avc Tryz.prog acsL3Pass_L0 (qsL3Pass_1 r) (stsL3Pass_L0 p0 x1) := (OKs_sL3Pass_L2 p0).2.1 x1 r h
theorem OK_sL3Pass_L1 (p0 : (List UInt8)) (x1_10 : Int) (r : Int) (h : sL3Pass_L1 p0 x1_10 = some r) : avc Tryz.prog acsL3Pass_L1 (qsL3Pass_5 r) (stsL3Pass_L1 p0 x1_10) := (OKs_sL3Pass_L2 p0).2.2 x1_10 r h
theorem OK_sL3Pass (p0 : (List UInt8)) (p1 : Int) : FOk Tryz.prog 71 [(vS p0), (vI p1)] (fun y => (vI y)) (sL3Pass p0 p1) := by
 intro r h
 rw [sL3Pass] at h
 refine aof trsL3Pass ?_
 show avc Tryz.prog acsL3Pass (qsL3Pass _) ⟨[(0, (vS p0)), (1, (vI p1))], []⟩
 delta acsL3Pass
 refine so ?_
 let a0 : St := ⟨[(4, (vI 0)), (0, (vS p0)), (1, (vI p1))], []⟩
 exact st 1 a0 (nx (si (bi (loop_go (s' := stsL3Pass_L0 p0 p1) (wr [] (es (es er_nil)) br_nil) (OK_sL3Pass_L0 p0 p1 _ h)))))
theorem OKs_sLex_L0 (p0 : (List UInt8)) : (∀ (x4 : (List GToken)) (x5 : Int) (r : (List GToken) × Int), sLex_L0 p0 x4 x5 = some r → avc Tryz.prog acsLex_L0 (qsLex_0 r) (stsLex_L0 p0 x4 x5)) := by
 refine sLex_L0.partial_correctness p0 (fun x4 x5 r => avc Tryz.prog acsLex_L0 (qsLex_0 r) (stsLex_L0 p0 x4 x5)) ?_
 · intro F_sLex_L0 OK_sLex_L0 x4 x5 r h
   delta acsLex_L0
   refine loop_unroll (bi (so ?_))
   let a5 : St := (stsLex_L0 p0 x4 x5).p [(14, (vI x5)), (13, (vS p0))]
   refine st 2 a5 (cs h (OK_sL3Pass p0 x5) fun y1 h => ?_)
   let a6 : St := a5.p [(5, (vI y1)), (15, (vI y1))]
   refine st 1 a6 (nx (si (so ?_)))
   let a7 : St := a6.p [(17, (vB (decide (y1 < 0)))), (16, (vI y1))]
   refine st 2 a7 (nx ?_)
   refine cd h (fun h => ?_) fun h => ?_
   refine so (bsl_step (l := ([] : List GToken)) (f := cGToken) (g := cGToken) (by kernel_rfl) (fun _ => rfl) (by kernel_rfl) ?_)
   let a8 : St := a7.p [(3, (vI (IntKind.wrap .i64 ((IntKind.wrap .i64 (0 - y1)) - 1)))), (2, (.osl 2 53 3 (([] : List GToken).map cGToken))), (21, (vI (IntKind.wrap .i64 ((IntKind.wrap .i64 (0 - y1)) - 1)))), (20, (vI (IntKind.wrap .i64 (0 - y1)))), (19, (vI y1)), (18, (.d (.sl 3 (([] : List GToken).map cGToken))))]
   refine st 5 a8 (nx (ret_wk (s' := ⟨[(2, (.osl 2000000 53 3 (([] : List GToken).map cGToken))), (3, (vI (IntKind.wrap .i64 ((IntKind.wrap .i64 (0 - y1)) - 1))))], []⟩) (wr [(2000000, .old 2)] (eo 2 (es er_nil)) br_nil) (tr (br (tr (br ?_))))))
   injection h with h; subst h
   exact retn_step (vs := [(.osl 2000000 53 3 (([] : List GToken).map cGToken)), (vI (IntKind.wrap .i64 ((IntKind.wrap .i64 (0 - y1)) - 1)))]) (by kernel_rfl) ⟨by kernel_rfl, trivial⟩
   refine ki (xi (si (so ?_)))
   let a9 : St := a7.p [(25, (vB (decide ((ln p0) ≤ y1)))), (24, (vI (ln p0))), (23, (vS p0)), (22, (vI y1))]
   refine st 4 a9 (nx ?_)
   refine cd h (fun h => ?_) fun h => ?_
   refine so ?_
   let a10 : St := ⟨[(3, (vI (-1))), (2, (.osl 2 53 3 (x4.map cGToken))), (26, (.d (.sl 3 (x4.map cGToken)))), (25, (vB (decide ((ln p0) ≤ y1)))), (24, (vI (ln p0))), (23, (vS p0)), (22, (vI y1)), (17, (vB (decide (y1 < 0)))), (16, (vI y1)), (5, (vI y1)), (15, (vI y1)), (14, (vI x5)), (13, (vS p0)), (0, (vS p0)), (4, (.d (.sl 3 (x4.map cGToken)))), (5, (vI x5))], []⟩
   refine st 3 a10 (nx (ret_wk (s' := ⟨[(2, (.osl 2000000 53 3 (x4.map cGToken))), (3, (vI (-1)))], []⟩) (wr [(2000000, .old 2)] (eo 2 (es er_nil)) br_nil) (tr (br (tr (br ?_))))))
   injection h with h; subst h
   exact retn_step (vs := [(.osl 2000000 53 3 (x4.map cGToken)), (vI (-1))]) (by kernel_rfl) ⟨by kernel_rfl, trivial⟩
   refine ki (xi (so ?_))
   let a11 : St := a9.p [(29, (vI y1)), (28, (vS p0))]
   refine st 2 a11 (cs h (OK_sL3One p0 y1) fun y2 h => ?_)
   let a12 : St := ⟨(7, (vI y2.2)) :: (6, (.ptr 6 0)) :: (32, (vI y2.2)) :: (31, (vGToken y2.1)) :: (27, (.tup [(vGToken y2.1), (vI y2.2)])) :: (30, (.tup [(vGToken y2.1), (vI y2.2)])) :: a11.env, [(6, bGToken y2.1)]⟩
   refine st 6 a12 (nx (si (so ?_)))
   let a13 : St := a12.p [(34, (vB (decide (y2.2 < 0)))), (33, (vI y2.2))]
   refine st 2 a13 (nx ?_)
   refine cd h (fun h => ?_) fun h => ?_
   refine so (bsl_step (l := ([] : List GToken)) (f := cGToken) (g := cGToken) (by kernel_rfl) (fun _ => rfl) (by kernel_rfl) ?_)
   let a14 : St := a13.p [(3, (vI y1)), (2, (.osl 2 53 3 (([] : List GToken).map cGToken))), (36, (vI y1)), (35, (.d (.sl 3 (([] : List GToken).map cGToken))))]
   refine st 3 a14 (nx (ret_wk (s' := ⟨[(2, (.osl 2000000 53 3 (([] : List GToken).map cGToken))), (3, (vI y1))], []⟩) (wr [(2000000, .old 2)] (eo 2 (es er_nil)) br_nil) (tr (br (tr (br ?_))))))
   injection h with h; subst h
   exact retn_step (vs := [(.osl 2000000 53 3 (([] : List GToken).map cGToken)), (vI y1)]) (by kernel_rfl) ⟨by kernel_rfl, trivial⟩
   refine ki (xi (so ?_))
   let a15 : St := a13.p [(38, (vGToken y2.1)), (37, (.osl 4 53 3 (x4.map cGToken)))]
   refine st 2 a15 (bsl_step (l := ([y2.1] : List GToken)) (f := cGToken) (g := cGToken) (by kernel_rfl) (fun _ => rfl) (by kernel_rfl) ?_)
   refine app_step (t := 4) (l := x4) (m := ([y2.1] : List GToken)) (f := cGToken) (S' := fun y => ⟨[(40, (.osl 40 53 3 (y.map cGToken))), (39, (.osl 39 53 3 (([y2.1] : List GToken).map cGToken))), (38, (vGToken y2.1)), (37, (.d (.sl 3 (x4.map cGToken)))), (34, (vB (decide (y2.2 < 0)))), (33, (vI y2.2)), (7, (vI y2.2)), (6, (.ptr 6 0)), (32, (vI y2.2)), (31, (vGToken y2.1)), (27, (.tup [(vGToken y2.1), (vI y2.2)])), (30, (.tup [(vGToken y2.1), (vI y2.2)])), (29, (vI y1)), (28, (vS p0)), (25, (vB (decide ((ln p0) ≤ y1)))), (24, (vI (ln p0))), (23, (vS p0)), (22, (vI y1)), (17, (vB (decide (y1 < 0)))), (16, (vI y1)), (5, (vI y1)), (15, (vI y1)), (14, (vI x5)), (13, (vS p0)), (0, (vS p0)), (4, (.d (.sl 3 (x4.map cGToken)))), (5, (vI x5))], [(6, bGToken y2.1)]⟩) h (by kernel_rfl) (by kernel_rfl) (by kernel_rfl) (by kernel_rfl) (fun y => by kernel_rfl) ?_
   clear h; intro y3 h
   let a16 : St := ⟨[(4, (.osl 4 53 3 (y3.map cGToken))), (40, (.d (.sl 3 (y3.map cGToken)))), (39, (.osl 39 53 3 (([y2.1] : List GToken).map cGToken))), (38, (vGToken y2.1)), (37, (.d (.sl 3 (x4.map cGToken)))), (34, (vB (decide (y2.2 < 0)))), (33, (vI y2.2)), (7, (vI y2.2)), (6, (.ptr 6 0)), (32, (vI y2.2)), (31, (vGToken y2.1)), (27, (.tup [(vGToken y2.1), (vI y2.2)])), (30, (.tup [(vGToken y2.1), (vI y2.2)])), (29, (vI y1)), (28, (vS p0)), (25, (vB (decide ((ln p0) ≤ y1)))), (24, (vI (ln p0))), (23, (vS p0)), (22, (vI y1)), (17, (vB (decide (y1 < 0)))), (16, (vI y1)), (5, (vI y1)), (15, (vI y1)), (14, (vI x5)), (13, (vS p0)), (0, (vS p0)), (4, (.d (.sl 3 (x4.map cGToken)))), (5, (vI x5))], [(6, bGToken y2.1)]⟩
   refine st 1 a16 (nx (oi ?_))
   let a17 : St := a16.p [(5, (vI y2.2)), (41, (vI y2.2))]
   exact st 2 a17 (ni (bn (loop_back (s' := stsLex_L0 p0 y3 y2.2) (wr [(4, .old 4)] (es (eo 4 (es er_nil))) br_nil) (OK_sLex_L0 y3 y2.2 _ h))))
theorem OK_sLex_L0 (p0 : (List UInt8)) (x4 : (List GToken)) (x5 : Int) (r : (List GToken) × Int) (h : sLex_L0 p0 x4 x5 = some r) : avc Tryz.prog acsLex_L0 (qsLex_0 r) (stsLex_L0 p0 x4 x5) := (OKs_sLex_L0 p0) x4 x5 r h
theorem OK_sLex (p0 : (List UInt8)) : FOkB Tryz.prog 39 [(vS p0)] [] (fun (y : (List GToken) × Int) => (.tup [(.osl 2000000 53 3 (y.1.map cGToken)), (vI y.2)])) (fun (y : (List GToken) × Int) => []) (sLex p0) := by
 intro r h
 rw [sLex] at h
 refine aof trsLex ?_
 show avc Tryz.prog acsLex (qsLex _) ⟨[(0, (vS p0))], []⟩
 delta acsLex
 refine so ?_
 let a0 : St := ⟨[(3, (vI 0)), (2, (.nil 3)), (0, (vS p0))], []⟩
 refine st 2 a0 (nx (so (bsl_step (l := ([] : List GToken)) (f := cGToken) (g := cGToken) (by kernel_rfl) (fun _ => rfl) (by kernel_rfl) ?_)))
 let a1 : St := a0.p [(4, (.osl 4 53 3 (([] : List GToken).map cGToken))), (8, (.d (.sl 3 (([] : List GToken).map cGToken))))]
 refine st 1 a1 (nx (si (so ?_)))
 let a2 : St := a1.p [(11, (vB (decide (2000 < (ln p0))))), (10, (vI (ln p0))), (9, (vS p0))]
 refine st 3 a2 (nx ?_)
 refine cd h (fun h => ?_) fun h => ?_
 refine so ?_
 let a3 : St := ⟨[(3, (vI 2000)), (2, (.osl 2 53 3 (([] : List GToken).map cGToken))), (12, (.d (.sl 3 (([] : List GToken).map cGToken)))), (11, (vB (decide (2000 < (ln p0))))), (10, (vI (ln p0))), (9, (vS p0)), (4, (.d (.sl 3 (([] : List GToken).map cGToken)))), (8, (.d (.sl 3 (([] : List GToken).map cGToken)))), (3, (vI 0)), (2, (.nil 3)), (0, (vS p0))], []⟩
 refine st 3 a3 (nx (ret_wk (s' := ⟨[(2, (.osl 2000000 53 3 (([] : List GToken).map cGToken))), (3, (vI 2000))], []⟩) (wr [(2000000, .old 2)] (eo 2 (es er_nil)) br_nil) (tr ?_)))
 injection h with h; subst h
 exact retn_step (vs := [(.osl 2000000 53 3 (([] : List GToken).map cGToken)), (vI 2000)]) (by kernel_rfl) ⟨by kernel_rfl, trivial⟩
 refine ki (xi (so ?_))
 let a4 : St := a2.p [(5, (vI 0))]
 exact st 1 a4 (nx (bi (loop_go (s' := stsLex_L0 p0 ([] : List GToken) 0) (wr [(4, .old 4)] (es (eo 4 (es er_nil))) br_nil) (OK_sLex_L0 p0 ([] : List GToken) 0 _ h))))
theorem OKs_sL2Quote_J1 (p0 : (List UInt8)) (p1 : Int) : (∀ (x6 : Int) (x5_3 : (List Int)) (r : (List UInt8)), sL2Quote_J1 p0 p1 x6 x5_3 = some r → avc Tryz.prog acsL2Quote_J1 (qsL2Quote_4 r) (stsL2Quote_J1 p0 p1 x6 x5_3)) ∧ (∀ (x5 : (List Int)) (x6 : Int) (r : (List UInt8)), sL2Quote_L0 p0 p1 x5 x6 = some r → avc Tryz.prog acsL2Quote_L0 (qsL2Quote_1 r) (stsL2Quote_L0 p0 p1 x5 x6)) := by
 refine sL2Quote_J1.mutual_partial_correctness p0 p1 (fun x6 x5_3 r => avc Tryz.prog acsL2Quote_J1 (qsL2Quote_4 r) (stsL2Quote_J1 p0 p1 x6 x5_3)) (fun x5 x6 r => avc Tryz.prog acsL2Quote_L0 (qsL2Quote_1 r) (stsL2Quote_L0 p0 p1 x5 x6)) ?_ ?_
 · intro F_sL2Quote_L0 OK_sL2Quote_L0 x6 x5_3 r h
   delta acsL2Quote_J1
   refine oi ?_
   let a11 : St := (stsL2Quote_J1 p0 p1 x6 x5_3).p [(26, (vI x6)), (25, (vS p0)), (24, (.osl 5 5 1 (x5_3.map cU8)))]
   refine st 3 a11 (vs (fun (y : Int) => (.d (.i .u8 y))) h (fun y hy => vop_ix (b := p0) (k := .i64) hy (by kernel_rfl) (by kernel_rfl) (by kernel_rfl)) fun y6 h => (bsl_step (l := ([y6] : List Int)) (f := cU8) (g := cU8) (by kernel_rfl) (fun _ => rfl) (by kernel_rfl) ?_))
   refine app_step (t := 5) (l := x5_3) (m := ([y6] : List Int)) (f := cU8) (S' := fun y => ⟨[(29, (.osl 29 5 1 (y.map cU8))), (28, (.osl 28 5 1 (([y6] : List Int).map cU8))), (27, (.d (.i .u8 y6))), (26, (vI x6)), (25, (vS p0)), (24, (.d (.sl 1 (x5_3.map cU8)))), (0, (vS p0)), (1, (.d (.i .u8 p1))), (5, (.d (.sl 1 (x5_3.map cU8)))), (6, (vI x6))], []⟩) h (by kernel_rfl) (by kernel_rfl) (by kernel_rfl) (by kernel_rfl) (fun y => by kernel_rfl) ?_
   clear h; intro y7 h
   let a12 : St := ⟨[(5, (.osl 5 5 1 (y7.map cU8))), (29, (.d (.sl 1 (y7.map cU8)))), (28, (.osl 28 5 1 (([y6] : List Int).map cU8))), (27, (.d (.i .u8 y6))), (26, (vI x6)), (25, (vS p0)), (24, (.d (.sl 1 (x5_3.map cU8)))), (0, (vS p0)), (1, (.d (.i .u8 p1))), (5, (.d (.sl 1 (x5_3.map cU8)))), (6, (vI x6))], []⟩
   refine st 1 a12 (ni (bn (xi (oi ?_))))
   let a13 : St := a12.p [(6, (vI (IntKind.wrap .i64 (x6 + 1)))), (14, (vI (IntKind.wrap .i64 (x6 + 1)))), (13, (vI x6))]
   exact st 3 a13 (ni (loop_back (s' := stsL2Quote_L0 p0 p1 y7 (IntKind.wrap .i64 (x6 + 1))) (wr [(5, .old 5)] (es (es (eo 5 (es er_nil)))) br_nil) (OK_sL2Quote_L0 y7 (IntKind.wrap .i64 (x6 + 1)) _ h)))
 · intro F_sL2Quote_J1 OK_sL2Quote_J1 x5 x6 r h
   delta acsL2Quote_L0
   refine loop_unroll (si (so ?_))
   let a4 : St := (stsL2Quote_L0 p0 p1 x5 x6).p [(12, (vB (decide (x6 < (ln p0))))), (11, (vI (ln p0))), (10, (vS p0)), (9, (vI x6))]
   refine st 4 a4 (nx ?_)
   refine cd h (fun h => ?_) fun h => ?_
   refine ki (xi (si (bi (si (so ?_)))))
   let a5 : St := a4.p [(16, (vI x6)), (15, (vS p0))]
   refine st 2 a5 (vs (fun (y : Int) => (.d (.i .u8 y))) h (fun y hy => vop_ix (b := p0) (k := .i64) hy (by kernel_rfl) (by kernel_rfl) (by kernel_rfl)) fun y1 h => ?_)
   let a6 : St := a5.p [(19, (vB (decide (y1 = p1)))), (18, (.d (.i .u8 p1))), (17, (.d (.i .u8 y1)))]
   refine st 2 a6 (nx ?_)
   refine cd h (fun h => ?_) fun h => ?_
   refine oi ?_
   let a7 : St := a6.p [(21, (.d (.i .u8 p1))), (20, (.osl 5 5 1 (x5.map cU8)))]
   refine st 2 a7 (bsl_step (l := ([p1] : List Int)) (f := cU8) (g := cU8) (by kernel_rfl) (fun _ => rfl) (by kernel_rfl) ?_)
   refine app_step (t := 5) (l := x5) (m := ([p1] : List Int)) (f := cU8) (S' := fun y => ⟨[(23, (.osl 23 5 1 (y.map cU8))), (22, (.osl 22 5 1 (([p1] : List Int).map cU8))), (21, (.d (.i .u8 p1))), (20, (.d (.sl 1 (x5.map cU8)))), (19, (vB (decide (y1 = p1)))), (18, (.d (.i .u8 p1))), (17, (.d (.i .u8 y1))), (16, (vI x6)), (15, (vS p0)), (12, (vB (decide (x6 < (ln p0))))), (11, (vI (ln p0))), (10, (vS p0)), (9, (vI x6)), (0, (vS p0)), (1, (.d (.i .u8 p1))), (5, (.d (.sl 1 (x5.map cU8)))), (6, (vI x6))], []⟩) h (by kernel_rfl) (by kernel_rfl) (by kernel_rfl) (by kernel_rfl) (fun y => by kernel_rfl) ?_
   clear h; intro y2 h
   let a8 : St := ⟨[(5, (.osl 5 5 1 (y2.map cU8))), (23, (.d (.sl 1 (y2.map cU8)))), (22, (.osl 22 5 1 (([p1] : List Int).map cU8))), (21, (.d (.i .u8 p1))), (20, (.d (.sl 1 (x5.map cU8)))), (19, (vB (decide (y1 = p1)))), (18, (.d (.i .u8 p1))), (17, (.d (.i .u8 y1))), (16, (vI x6)), (15, (vS p0)), (12, (vB (decide (x6 < (ln p0))))), (11, (vI (ln p0))), (10, (vS p0)), (9, (vI x6)), (0, (vS p0)), (1, (.d (.i .u8 p1))), (5, (.d (.sl 1 (x5.map cU8)))), (6, (vI x6))], []⟩
   exact st 1 a8 (ni (next_step (s' := stsL2Quote_J1 p0 p1 x6 y2) (wr [(5, .old 5)] (es (es (eo 5 (es er_nil)))) br_nil) (OK_sL2Quote_J1 x6 y2 _ h)))
   exact ki (next_step (s' := stsL2Quote_J1 p0 p1 x6 x5) (wr [(5, .old 5)] (es (es (eo 5 (es er_nil)))) br_nil) (OK_sL2Quote_J1 x6 x5 _ h))
   refine ei (te (te (bh (xi (so ?_)))))
   let a9 : St := a4.p [(31, (.d (.i .u8 p1))), (30, (.osl 5 5 1 (x5.map cU8)))]
   refine st 2 a9 (bsl_step (l := ([p1] : List Int)) (f := cU8) (g := cU8) (by kernel_rfl) (fun _ => rfl) (by kernel_rfl) ?_)
   refine app_step (t := 5) (l := x5) (m := ([p1] : List Int)) (f := cU8) (S' := fun y => ⟨[(33, (.osl 33 5 1 (y.map cU8))), (32, (.osl 32 5 1 (([p1] : List Int).map cU8))), (31, (.d (.i .u8 p1))), (30, (.d (.sl 1 (x5.map cU8)))), (12, (vB (decide (x6 < (ln p0))))), (11, (vI (ln p0))), (10, (vS p0)), (9, (vI x6)), (0, (vS p0)), (1, (.d (.i .u8 p1))), (5, (.d (.sl 1 (x5.map cU8)))), (6, (vI x6))], []⟩) h (by kernel_rfl) (by kernel_rfl) (by kernel_rfl) (by kernel_rfl) (fun y => by kernel_rfl) ?_
   clear h; intro y4 h
   refine vs (fun (y : (List UInt8)) => (vS y)) h (fun y hy => vop_cbs (l := y4) hy (by kernel_rfl) (by kernel_rfl)) fun y5 h => ?_
   let a10 : St := ⟨[(4, (vS y5)), (34, (vS y5)), (33, (.osl 33 5 1 (y4.map cU8))), (32, (.osl 32 5 1 (([p1] : List Int).map cU8))), (31, (.d (.i .u8 p1))), (30, (.d (.sl 1 (x5.map cU8)))), (12, (vB (decide (x6 < (ln p0))))), (11, (vI (ln p0))), (10, (vS p0)), (9, (vI x6)), (0, (vS p0)), (1, (.d (.i .u8 p1))), (5, (.d (.sl 1 (x5.map cU8)))), (6, (vI x6))], []⟩
   refine st 1 a10 (nx (ri ?_))
   injection h with h; subst h
   exact r1 (v := (vS y5))
theorem OK_sL2Quote_J1 (p0 : (List UInt8)) (p1 : Int) (x6 : Int) (x5_3 : (List Int)) (r : (List UInt8)) (h : sL2Quote_J1 p0 p1 x6 x5_3 = some r) : avc Tryz.prog acsL2Quote_J1 (qsL2Quote_4 r) (stsL2Quote_J1 p0 p1 x6 x5_3) := (OKs_sL2Quote_J1 p0 p1).1 x6 x5_3 r h
theorem OK_sL2Quote_L0 (p0 : (List UInt8)) (p1 : Int) (x5 : (List Int)) (x6 : Int) (r : (List UInt8)) (h : sL2Quote_L0 p0 p1 x5 x6 = some r) : avc Tryz.prog acsL2Quote_L0 (qsL2Quote_1 r) (stsL2Quote_L0 p0 p1 x5 x6) := (OKs_sL2Quote_J1 p0 p1).2 x5 x6 r h
theorem OK_sL2Quote (p0 : (List UInt8)) (p1 : Int) : FOk Tryz.prog 133 [(vS p0), (.d (.i .u8 p1))] (fun y => (vS y)) (sL2Quote p0 p1) := by
 intro r h
 rw [sL2Quote] at h
 refine aof trsL2Quote ?_
 show avc Tryz.prog acsL2Quote (qsL2Quote _) ⟨[(0, (vS p0)), (1, (.d (.i .u8 p1)))], []⟩
 delta acsL2Quote
 refine so ?_
 let a0 : St := ⟨[(4, (vS [])), (0, (vS p0)), (1, (.d (.i .u8 p1)))], []⟩
 refine st 1 a0 (nx (so ?_))
 let a1 : St := a0.p [(7, (.d (.i .u8 p1)))]
 refine st 1 a1 (bsl_step (l := ([p1] : List Int)) (f := cU8) (g := cU8) (by kernel_rfl) (fun _ => rfl) (by kernel_rfl) ?_)
 let a2 : St := a1.p [(5, (.osl 5 5 1 (([p1] : List Int).map cU8))), (8, (.d (.sl 1 (([p1] : List Int).map cU8))))]
 refine st 1 a2 (nx (si (so ?_)))
 let a3 : St := a2.p [(6, (vI 0))]
 exact st 1 a3 (nx (bi (loop_go (s' := stsL2Quote_L0 p0 p1 ([p1] : List Int) 0) (wr [(5, .old 5)] (es (es (eo 5 (es er_nil)))) br_nil) (OK_sL2Quote_L0 p0 p1 ([p1] : List Int) 0 _ h))))
theorem OKs_sPlainName_L0 (p0 : (List UInt8)) : (∀ (x3 : Int) (r : Bool), sPlainName_L0 p0 x3 = some r → avc Tryz.prog acsPlainName_L0 (qsPlainName_1 r) (stsPlainName_L0 p0 x3)) := by
 refine sPlainName_L0.partial_correctness p0 (fun x3 r => avc Tryz.prog acsPlainName_L0 (qsPlainName_1 r) (stsPlainName_L0 p0 x3)) ?_
 · intro F_sPlainName_L0 OK_sPlainName_L0 x3 r h
   delta acsPlainName_L0
   refine loop_unroll (si (so ?_))
   let a6 : St := (stsPlainName_L0 p0 x3).p [(20, (vB (decide (x3 < (ln p0))))), (19, (vI (ln p0))), (18, (vS p0)), (17, (vI x3))]
   refine st 4 a6 (nx ?_)
   refine cd h (fun h => ?_) fun h => ?_
   refine ki (xi (si (bi (so ?_))))
   let a7 : St := a6.p [(24, (vI x3)), (23, (vS p0))]
   refine st 2 a7 (vs (fun (y : Int) => (.d (.i .u8 y))) h (fun y hy => vop_ix (b := p0) (k := .i64) hy (by kernel_rfl) (by kernel_rfl) (by kernel_rfl)) fun y7 h => (cs h (OK_sL2Letter y7) fun y8 h => ?_))
   let a8 : St := a7.p [(28, (vB (!y8))), (27, (vB (!y8))), (26, (vB y8)), (25, (.d (.i .u8 y7)))]
   refine st 2 a8 (gp true (!y8) (vS p0) (fun hc => vl) (gp true (!y8) (vI x3) (fun hc => vl) (gv true (!y8) (fun (y : Int) => (.d (.i .u8 y))) h (fun y hy hc => vop_ix (b := p0) (k := .i64) hy (Eq.trans (b := ([(true && ((!y8) == true)), (true && ((!y8) == true))] : List Bool).all id) (by kernel_rfl) (all_c hc (all_c hc rfl))) (by kernel_rfl) (by kernel_rfl)) fun y9 h => ?_)))
   refine gcall_step (p := true) (b := (!y8)) (m := sL2Figure y9) (dflt := default) (args := [(.d (.i .u8 y9))]) (v' := (fun y => (vB y))) h (by kernel_rfl) (OK_sL2Figure y9) (fun hc => by kernel_rfl) (by kernel_rfl) (fun _ => rfl) (fun hc => (Eq.trans (b := ([(true && ((!y8) == true))] : List Bool).all id) (by kernel_rfl) (all_c hc rfl))) ?_
   clear h; intro y10 h
   refine gp true (!y8) (vB (!y10)) (fun hc => vg hc) (vs (fun (y : Bool) => (vB y)) h (fun y hy => vop_pickV hy (p := (true && ((!y8) == true))) (q := true) (by kernel_rfl) (by kernel_rfl) (by kernel_rfl) (by kernel_rfl) (fun hb => gc_t rfl hb) (fun _ => rfl)) fun y11 h => (nx ?_))
   refine cd h (fun h => ?_) fun h => ?_
   refine so ?_
   let a9 : St := a8.p [(2, (vB false)), (34, (vB y11)), (33, (.ite (true && ((!y8) == true)) (vB (!y10)))), (32, (.ite (true && ((!y8) == true)) (vB y10))), (31, (.ite (true && ((!y8) == true)) (.d (.i .u8 y9)))), (30, (.ite (true && ((!y8) == true)) (vI x3))), (29, (.ite (true && ((!y8) == true)) (vS p0)))]
   refine st 1 a9 (nx (ri (br (tr (tr (br (tr ?_)))))))
   injection h with h; subst h
   exact r1 (v := (vB false))
   refine ki (bn (xi (oi ?_)))
   let a10 : St := a8.p [(3, (vI (IntKind.wrap .i64 (x3 + 1)))), (22, (vI (IntKind.wrap .i64 (x3 + 1)))), (21, (vI x3)), (34, (vB y11)), (33, (.ite (true && ((!y8) == true)) (vB (!y10)))), (32, (.ite (true && ((!y8) == true)) (vB y10))), (31, (.ite (true && ((!y8) == true)) (.d (.i .u8 y9)))), (30, (.ite (true && ((!y8) == true)) (vI x3))), (29, (.ite (true && ((!y8) == true)) (vS p0)))]
   exact st 3 a10 (ni (loop_back (s' := stsPlainName_L0 p0 (IntKind.wrap .i64 (x3 + 1))) (wr [] (es (es er_nil)) br_nil) (OK_sPlainName_L0 (IntKind.wrap .i64 (x3 + 1)) _ h)))
   refine ei (te (te (bh (xi (so ?_)))))
   let a11 : St := a6.p [(2, (vB true))]
   refine st 1 a11 (nx (ri ?_))
   injection h with h; subst h
   exact r1 (v := (vB true))
theorem OK_sPlainName_L0 (p0 : (List UInt8)) (x3 : Int) (r : Bool) (h : sPlainName_L0 p0 x3 = some r) : avc Tryz.prog acsPlainName_L0 (qsPlainName_1 r) (stsPlainName_L0 p0 x3) := (OKs_sPlainName_L0 p0) x3 r h
theorem OK_sPlainName (p0 : (List UInt8)) : FOk Tryz.prog 132 [(vS p0)] (fun y => (vB y)) (sPlainName p0) := by
 intro r h
 rw [sPlainName] at h
 refine aof trsPlainName ?_
 show avc Tryz.prog acsPlainName (qsPlainName _) ⟨[(0, (vS p0))], []⟩
 delta acsPlainName
 refine so ?_
 let a0 : St := ⟨[(2, (vB false)), (0, (vS p0))], []⟩
 refine st 1 a0 (nx (si (so ?_)))
 let a1 : St := a0.p [(4, (vS p0))]
 refine st 1 a1 (cs h (OK_sNameOk p0) fun y1 h => ?_)
 let a2 : St := a1.p [(7, (vB (!y1))), (6, (vB (!y1))), (5, (vB y1))]
 refine st 2 a2 (gp true (!y1) (vS p0) (fun hc => vl) (gv true (!y1) (fun (y : Int) => (.d (.i .u8 y))) h (fun y hy hc => vop_ix (b := p0) (k := .i64) hy (Eq.trans (b := ([(true && ((!y1) == false))] : List Bool).all id) (by kernel_rfl) (all_c hc rfl)) (by kernel_rfl) (by kernel_rfl)) fun y2 h => ?_))
 refine gcall_step (p := true) (b := (!y1)) (m := sL2Figure y2) (dflt := default) (args := [(.d (.i .u8 y2))]) (v' := (fun y => (vB y))) h (by kernel_rfl) (OK_sL2Figure y2) (fun hc => by kernel_rfl) (by kernel_rfl) (fun _ => rfl) (fun hc => (Eq.trans (b := ([(true && ((!y1) == false))] : List Bool).all id) (by kernel_rfl) (all_c hc rfl))) ?_
 clear h; intro y3 h
 refine vs (fun (y : Bool) => (vB y)) h (fun y hy => vop_pickV hy (p := true) (q := (true && ((!y1) == false))) (by kernel_rfl) (by kernel_rfl) (by kernel_rfl) (by kernel_rfl) (fun _ => rfl) (fun hb => gc_f rfl hb)) fun y4 h => ?_
 let a3 : St := a2.p [(12, (vB y4)), (11, (vB y4)), (10, (.ite (true && ((!y1) == false)) (vB y3))), (9, (.ite (true && ((!y1) == false)) (.d (.i .u8 y2)))), (8, (.ite (true && ((!y1) == false)) (vS p0)))]
 refine st 1 a3 (gp true y4 (vS p0) (fun hc => vl) (gcall_step (p := true) (b := y4) (m := sKeyOf p0) (dflt := default) (args := [(vS p0)]) (v' := (fun y => (vI y))) h (by kernel_rfl) (OK_sKeyOf p0) (fun hc => by kernel_rfl) (by kernel_rfl) (fun _ => rfl) (fun hc => (Eq.trans (b := ([(true && (y4 == false))] : List Bool).all id) (by kernel_rfl) (all_c hc rfl))) ?_))
 clear h; intro y5 h
 refine gp true y4 (vB (decide (0 < y5))) (fun hc => vg hc) (vs (fun (y : Bool) => (vB y)) h (fun y hy => vop_pickV hy (p := true) (q := (true && (y4 == false))) (by kernel_rfl) (by kernel_rfl) (by kernel_rfl) (by kernel_rfl) (fun _ => rfl) (fun hb => gc_f rfl hb)) fun y6 h => (nx ?_))
 refine cd h (fun h => ?_) fun h => ?_
 refine so ?_
 let a4 : St := a3.p [(2, (vB false)), (16, (vB y6)), (15, (.ite (gF y4) (vB (decide (0 < y5))))), (14, (.ite (gF y4) (vI y5))), (13, (.ite (gF y4) (vS p0)))]
 refine st 1 a4 (nx (ri (tr ?_)))
 injection h with h; subst h
 exact r1 (v := (vB false))
 refine ki (xi (si (so ?_)))
 let a5 : St := a3.p [(3, (vI 0)), (16, (vB y6)), (15, (.ite (gF y4) (vB (decide (0 < y5))))), (14, (.ite (gF y4) (vI y5))), (13, (.ite (gF y4) (vS p0)))]
 exact st 1 a5 (nx (bi (loop_go (s' := stsPlainName_L0 p0 0) (wr [] (es (es er_nil)) br_nil) (OK_sPlainName_L0 p0 0 _ h))))
theorem OK_sNameText (p0 : (List UInt8)) : FOk Tryz.prog 98 [(vS p0)] (fun y => (vS y)) (sNameText p0) := by
 intro r h
 rw [sNameText] at h
 refine aof trsNameText ?_
 show avc Tryz.prog acsNameText (qsNameText _) ⟨[(0, (vS p0))], []⟩
 delta acsNameText
 refine so ?_
 let a0 : St := ⟨[(2, (vS [])), (0, (vS p0))], []⟩
 refine st 1 a0 (nx (si (so ?_)))
 let a1 : St := a0.p [(3, (vS p0))]
 refine st 1 a1 (cs h (OK_sNameOk p0) fun y1 h => ?_)
 let a2 : St := a1.p [(5, (vB (!y1))), (4, (vB y1))]
 refine st 1 a2 (nx ?_)
 refine cd h (fun h => ?_) fun h => ?_
 refine so ?_
 let a3 : St := a2.p [(2, (vS []))]
 refine st 1 a3 (nx (ri (tr ?_)))
 injection h with h; subst h
 exact r1 (v := (vS []))
 refine ki (xi (si (so ?_)))
 let a4 : St := a2.p [(6, (vS p0))]
 refine st 1 a4 (cs h (OK_sPlainName p0) fun y2 h => (nx ?_))
 refine cd h (fun h => ?_) fun h => ?_
 refine so ?_
 let a5 : St := a4.p [(2, (vS p0)), (8, (vS p0)), (7, (vB y2))]
 refine st 2 a5 (nx (ri (tr ?_)))
 injection h with h; subst h
 exact r1 (v := (vS p0))
 refine ki (xi (so ?_))
 let a6 : St := a4.p [(9, (vS p0)), (7, (vB y2))]
 refine st 1 a6 (cs h (OK_sL2Quote p0 34) fun y3 h => ?_)
 let a7 : St := a6.p [(2, (vS y3)), (10, (vS y3))]
 refine st 1 a7 (nx (ri ?_))
 injection h with h; subst h
 exact r1 (v := (vS y3))
theorem OK_sQuoteText (p0 : (List UInt8)) : FOk Tryz.prog 99 [(vS p0)] (fun y => (vS y)) (sQuoteText p0) := by
 intro r h
 rw [sQuoteText] at h
 refine aof trsQuoteText ?_
 show avc Tryz.prog acsQuoteText (qsQuoteText _) ⟨[(0, (vS p0))], []⟩
 delta acsQuoteText
 refine so ?_
 let a0 : St := ⟨[(2, (vS [])), (0, (vS p0))], []⟩
 refine st 1 a0 (nx (so ?_))
 let a1 : St := a0.p [(3, (vS p0))]
 refine st 1 a1 (cs h (OK_sL2Quote p0 39) fun y1 h => ?_)
 let a2 : St := a1.p [(2, (vS y1)), (4, (vS y1))]
 refine st 1 a2 (nx (ri ?_))
 injection h with h; subst h
 exact r1 (v := (vS y1))
theorem OK_sTokenText (p0 : GToken) : FOk Tryz.prog 50 [(vGToken p0)] (fun y => (vS y)) (sTokenText p0) := by
 intro r h
 rw [sTokenText] at h
 refine aof trsTokenText ?_
 show avc Tryz.prog acsTokenText (qsTokenText _) ⟨[(0, (vGToken p0))], []⟩
 delta acsTokenText
 refine so ?_
 let a0 : St := ⟨[(2, (vS [])), (1, (.ptr 1 0)), (0, (vGToken p0))], [(1, bGToken p0)]⟩
 refine st 2 a0 (nx (si (so ?_)))
 let a1 : St := a0.p [(3, (vGToken p0))]
 refine st 1 a1 (cs h (OK_sTokenOk p0) fun y1 h => ?_)
 let a2 : St := a1.p [(5, (vB (!y1))), (4, (vB y1))]
 refine st 1 a2 (nx ?_)
 refine cd h (fun h => ?_) fun h => ?_
 refine so ?_
 let a3 : St := a2.p [(2, (vS []))]
 refine st 1 a3 (nx (ri (tr ?_)))
 injection h with h; subst h
 exact r1 (v := (vS []))
 refine ki (xi (si (so ?_)))
 let a4 : St := a2.p [(7, (vI p0.kind)), (6, (.ptr 1 0))]
 refine st 2 a4 (nx (bi (so ?_)))
 let a5 : St := a4.p [(8, (vB (decide (p0.kind = 2)))), (9, (vB (decide (p0.kind = 2))))]
 refine st 2 a5 (nx ?_)
 refine cd h (fun h => ?_) fun h => ?_
 refine so ?_
 let a6 : St := a5.p [(11, (vS p0.text)), (10, (.ptr 1 1))]
 refine st 2 a6 (cs h (OK_sNameText p0.text) fun y2 h => ?_)
 let a7 : St := a6.p [(2, (vS y2)), (12, (vS y2))]
 refine st 1 a7 (nx (ri (br (tr ?_))))
 injection h with h; subst h
 exact r1 (v := (vS y2))
 refine so ?_
 let a8 : St := a5.p [(13, (vB (decide (p0.kind = 4)))), (14, (vB (decide (p0.kind = 4))))]
 refine st 2 a8 (nx ?_)
 refine cd h (fun h => ?_) fun h => ?_
 refine so ?_
 let a9 : St := a8.p [(16, (vS p0.text)), (15, (.ptr 1 1))]
 refine st 2 a9 (cs h (OK_sQuoteText p0.text) fun y3 h => ?_)
 let a10 : St := a9.p [(2, (vS y3)), (17, (vS y3))]
 refine st 1 a10 (nx (ri (br (tr ?_))))
 injection h with h; subst h
 exact r1 (v := (vS y3))
 refine ki (bn (xi (so ?_)))
 let a11 : St := a8.p [(2, (vS p0.text)), (19, (vS p0.text)), (18, (.ptr 1 1))]
 refine st 3 a11 (nx (ri ?_))
 injection h with h; subst h
 exact r1 (v := (vS p0.text))
theorem OK_sL4Quoted (p0 : GToken) : FOk Tryz.prog 97 [(vGToken p0)] (fun y => (vB y)) (sL4Quoted p0) := by
 intro r h
 rw [sL4Quoted] at h
 refine aof trsL4Quoted ?_
 show avc Tryz.prog acsL4Quoted (qsL4Quoted _) ⟨[(0, (vGToken p0))], []⟩
 delta acsL4Quoted
 refine so ?_
 let a0 : St := ⟨[(2, (vB false)), (1, (.ptr 1 0)), (0, (vGToken p0))], [(1, bGToken p0)]⟩
 refine st 2 a0 (nx (so ?_))
 let a1 : St := a0.p [(6, (vB (decide (p0.kind = 2)))), (5, (vB (decide (p0.kind = 2)))), (4, (vI p0.kind)), (3, (.ptr 1 0))]
 refine st 4 a1 (gp true (decide (p0.kind = 2)) (.ptr 1 1) (fun hc => vl) (gp true (decide (p0.kind = 2)) (vS p0.text) (fun hc => vg hc) ?_))
 refine gcall_step (p := true) (b := (decide (p0.kind = 2))) (m := sPlainName p0.text) (dflt := default) (args := [(vS p0.text)]) (v' := (fun y => (vB y))) h (by kernel_rfl) (OK_sPlainName p0.text) (fun hc => by kernel_rfl) (by kernel_rfl) (fun _ => rfl) (fun hc => (Eq.trans (b := ([(true && ((decide (p0.kind = 2)) == true))] : List Bool).all id) (by kernel_rfl) (all_c hc rfl))) ?_
 clear h; intro y1 h
 refine gp true (decide (p0.kind = 2)) (vB (!y1)) (fun hc => vg hc) (vs (fun (y : Bool) => (vB y)) h (fun y hy => vop_pickV hy (p := (true && ((decide (p0.kind = 2)) == true))) (q := true) (by kernel_rfl) (by kernel_rfl) (by kernel_rfl) (by kernel_rfl) (fun hb => gc_t rfl hb) (fun _ => rfl)) fun y2 h => ?_)
 let a2 : St := a1.p [(2, (vB y2)), (11, (vB y2)), (10, (.ite (true && ((decide (p0.kind = 2)) == true)) (vB (!y1)))), (9, (.ite (true && ((decide (p0.kind = 2)) == true)) (vB y1))), (8, (.ite (true && ((decide (p0.kind = 2)) == true)) (vS p0.text))), (7, (.ite (true && ((decide (p0.kind = 2)) == true)) (.ptr 1 1)))]
 refine st 1 a2 (nx (ri ?_))
 injection h with h; subst h
 exact r1 (v := (vB y2))
theorem OK_sL4Word (p0 : GToken) : FOk Tryz.prog 96 [(vGToken p0)] (fun y => (vB y)) (sL4Word p0) := by
 intro r h
 rw [sL4Word] at h
 refine aof trsL4Word ?_
 show avc Tryz.prog acsL4Word (qsL4Word _) ⟨[(0, (vGToken p0))], []⟩
 delta acsL4Word
 refine so ?_
 let a0 : St := ⟨[(2, (vB false)), (1, (.ptr 1 0)), (0, (vGToken p0))], [(1, bGToken p0)]⟩
 refine st 2 a0 (nx (so ?_))
 let a1 : St := a0.p [(6, (vB (decide (p0.kind = 1)))), (5, (vB (decide (p0.kind = 1)))), (4, (vI p0.kind)), (3, (.ptr 1 0))]
 refine st 4 a1 (gp true (decide (p0.kind = 1)) (.ptr 1 0) (fun hc => vl) (gp true (decide (p0.kind = 1)) (vI p0.kind) (fun hc => vg hc) (gp true (decide (p0.kind = 1)) (vB (decide (p0.kind = 3))) (fun hc => vg hc) ?_)))
 refine vs (fun (y : Bool) => (vB y)) h (fun y hy => vop_pickV hy (p := true) (q := (true && ((decide (p0.kind = 1)) == false))) (by kernel_rfl) (by kernel_rfl) (by kernel_rfl) (by kernel_rfl) (fun _ => rfl) (fun hb => gc_f rfl hb)) fun y1 h => ?_
 let a2 : St := a1.p [(11, (vB y1)), (10, (vB y1)), (9, (.ite (true && ((decide (p0.kind = 1)) == false)) (vB (decide (p0.kind = 3))))), (8, (.ite (true && ((decide (p0.kind = 1)) == false)) (vI p0.kind))), (7, (.ite (true && ((decide (p0.kind = 1)) == false)) (.ptr 1 0)))]
 refine st 1 a2 (gp true y1 (.ptr 1 0) (fun hc => vl) (gp true y1 (vI p0.kind) (fun hc => vg hc) (gp true y1 (vB (decide (p0.kind = 2))) (fun hc => vg hc) (gp true y1 (vB (decide (p0.kind = 2))) (fun hc => vg hc) (gp (true && (y1 == false)) (decide (p0.kind = 2)) (.ptr 1 1) (fun hc => vl) (gp (true && (y1 == false)) (decide (p0.kind = 2)) (vS p0.text) (fun hc => vg hc) ?_))))))
 refine gcall_step (p := (true && (y1 == false))) (b := (decide (p0.kind = 2))) (m := sPlainName p0.text) (dflt := default) (args := [(vS p0.text)]) (v' := (fun y => (vB y))) h (by kernel_rfl) (OK_sPlainName p0.text) (fun hc => by kernel_rfl) (by kernel_rfl) (fun _ => rfl) (fun hc => (Eq.trans (b := ([((true && (y1 == false)) && ((decide (p0.kind = 2)) == true))] : List Bool).all id) (by kernel_rfl) (all_c hc rfl))) ?_
 clear h; intro y2 h
 refine gv true y1 (fun (y : Bool) => (vB y)) h (fun y hy hc => vop_pickV hy (p := ((true && (y1 == false)) && ((decide (p0.kind = 2)) == true))) (q := true) (Eq.trans (b := ([(true && (y1 == false))] : List Bool).all id) (by kernel_rfl) (all_c hc rfl)) (by kernel_rfl) (by kernel_rfl) (by kernel_rfl) (fun hb => gc_t hc hb) (fun _ => rfl)) fun y3 h => ?_
 refine vs (fun (y : Bool) => (vB y)) h (fun y hy => vop_pickV hy (p := true) (q := (true && (y1 == false))) (by kernel_rfl) (by kernel_rfl) (by kernel_rfl) (by kernel_rfl) (fun _ => rfl) (fun hb => gc_f rfl hb)) fun y4 h => ?_
 let a3 : St := a2.p [(2, (vB y4)), (20, (vB y4)), (19, (.ite (gF y1) (vB y3))), (18, (.ite ((gF y1) && ((decide (p0.kind = 2)) == true)) (vB y2))), (17, (.ite ((gF y1) && ((decide (p0.kind = 2)) == true)) (vS p0.text))), (16, (.ite ((gF y1) && ((decide (p0.kind = 2)) == true)) (.ptr 1 1))), (15, (.ite (gF y1) (vB (decide (p0.kind = 2))))), (14, (.ite (gF y1) (vB (decide (p0.kind = 2))))), (13, (.ite (gF y1) (vI p0.kind))), (12, (.ite (gF y1) (.ptr 1 0)))]
 refine st 1 a3 (nx (ri ?_))
 injection h with h; subst h
 exact r1 (v := (vB y4))
theorem OK_sNeedsGap (p0 : GToken) (p1 : GToken) : FOk Tryz.prog 49 [(vGToken p0), (vGToken p1)] (fun y => (vB y)) (sNeedsGap p0 p1) := by
 intro r h
 rw [sNeedsGap] at h
 refine aof trsNeedsGap ?_
 show avc Tryz.prog acsNeedsGap (qsNeedsGap _) ⟨[(0, (vGToken p0)), (1, (vGToken p1))], []⟩
 delta acsNeedsGap
 refine so ?_
 let a0 : St := ⟨[(4, (vB false)), (3, (.ptr 3 0)), (2, (.ptr 2 0)), (0, (vGToken p0)), (1, (vGToken p1))], [(3, bGToken p1), (2, bGToken p0)]⟩
 refine st 3 a0 (nx (si (so ?_)))
 let a1 : St := a0.p [(5, (vGToken p0))]
 refine st 1 a1 (cs h (OK_sTokenOk p0) fun y1 h => ?_)
 let a2 : St := a1.p [(8, (vB (!y1))), (7, (vB (!y1))), (6, (vB y1))]
 refine st 2 a2 (gp true (!y1) (vGToken p1) (fun hc => vl) (gcall_step (p := true) (b := (!y1)) (m := sTokenOk p1) (dflt := default) (args := [(vGToken p1)]) (v' := (fun y => (vB y))) h (by kernel_rfl) (OK_sTokenOk p1) (fun hc => by kernel_rfl) (by kernel_rfl) (fun _ => rfl) (fun hc => (Eq.trans (b := ([(true && ((!y1) == false))] : List Bool).all id) (by kernel_rfl) (all_c hc rfl))) ?_))
 clear h; intro y2 h
 refine gp true (!y1) (vB (!y2)) (fun hc => vg hc) (vs (fun (y : Bool) => (vB y)) h (fun y hy => vop_pickV hy (p := true) (q := (true && ((!y1) == false))) (by kernel_rfl) (by kernel_rfl) (by kernel_rfl) (by kernel_rfl) (fun _ => rfl) (fun hb => gc_f rfl hb)) fun y3 h => (nx ?_))
 refine cd h (fun h => ?_) fun h => ?_
 refine so ?_
 let a3 : St := a2.p [(4, (vB false)), (12, (vB y3)), (11, (.ite (true && ((!y1) == false)) (vB (!y2)))), (10, (.ite (true && ((!y1) == false)) (vB y2))), (9, (.ite (true && ((!y1) == false)) (vGToken p1)))]
 refine st 1 a3 (nx (ri (tr ?_)))
 injection h with h; subst h
 exact r1 (v := (vB false))
 refine ki (xi (si (so ?_)))
 let a4 : St := a2.p [(13, (vGToken p0)), (12, (vB y3)), (11, (.ite (true && ((!y1) == false)) (vB (!y2)))), (10, (.ite (true && ((!y1) == false)) (vB y2))), (9, (.ite (true && ((!y1) == false)) (vGToken p1)))]
 refine st 1 a4 (cs h (OK_sL4Word p0) fun y4 h => ?_)
 let a5 : St := a4.p [(15, (vB y4)), (14, (vB y4))]
 refine st 1 a5 (gp true y4 (vGToken p1) (fun hc => vl) (gcall_step (p := true) (b := y4) (m := sL4Word p1) (dflt := default) (args := [(vGToken p1)]) (v' := (fun y => (vB y))) h (by kernel_rfl) (OK_sL4Word p1) (fun hc => by kernel_rfl) (by kernel_rfl) (fun _ => rfl) (fun hc => (Eq.trans (b := ([(true && (y4 == true))] : List Bool).all id) (by kernel_rfl) (all_c hc rfl))) ?_))
 clear h; intro y5 h
 refine vs (fun (y : Bool) => (vB y)) h (fun y hy => vop_pickV hy (p := (true && (y4 == true))) (q := true) (by kernel_rfl) (by kernel_rfl) (by kernel_rfl) (by kernel_rfl) (fun hb => gc_t rfl hb) (fun _ => rfl)) fun y6 h => ?_
 let a6 : St := a5.p [(19, (vB y6)), (18, (vB y6)), (17, (.ite (gT y4) (vB y5))), (16, (.ite (gT y4) (vGToken p1)))]
 refine st 1 a6 (gp true y6 (.ptr 2 0) (fun hc => vl) (gp true y6 (vI p0.kind) (fun hc => vg hc) (gp true y6 (vB (decide (p0.kind = 4))) (fun hc => vg hc) (gp true y6 (vB (decide (p0.kind = 4))) (fun hc => vg hc) (gp (true && (y6 == false)) (decide (p0.kind = 4)) (.ptr 3 0) (fun hc => vl) (gp (true && (y6 == false)) (decide (p0.kind = 4)) (vI p1.kind) (fun hc => vg hc) ?_))))))
 refine gp (true && (y6 == false)) (decide (p0.kind = 4)) (vB (decide (p1.kind = 4))) (fun hc => vg hc) ?_
 refine gv true y6 (fun (y : Bool) => (vB y)) h (fun y hy hc => vop_pickV hy (p := ((true && (y6 == false)) && ((decide (p0.kind = 4)) == true))) (q := true) (Eq.trans (b := ([(true && (y6 == false))] : List Bool).all id) (by kernel_rfl) (all_c hc rfl)) (by kernel_rfl) (by kernel_rfl) (by kernel_rfl) (fun hb => gc_t hc hb) (fun _ => rfl)) fun y7 h => ?_
 refine vs (fun (y : Bool) => (vB y)) h (fun y hy => vop_pickV hy (p := true) (q := (true && (y6 == false))) (by kernel_rfl) (by kernel_rfl) (by kernel_rfl) (by kernel_rfl) (fun _ => rfl) (fun hb => gc_f rfl hb)) fun y8 h => ?_
 let a7 : St := a6.p [(29, (vB y8)), (28, (vB y8)), (27, (.ite (gF y6) (vB y7))), (26, (.ite ((gF y6) && ((decide (p0.kind = 4)) == true)) (vB (decide (p1.kind = 4))))), (25, (.ite ((gF y6) && ((decide (p0.kind = 4)) == true)) (vI p1.kind))), (24, (.ite ((gF y6) && ((decide (p0.kind = 4)) == true)) (.ptr 3 0))), (23, (.ite (gF y6) (vB (decide (p0.kind = 4))))), (22, (.ite (gF y6) (vB (decide (p0.kind = 4))))), (21, (.ite (gF y6) (vI p0.kind))), (20, (.ite (gF y6) (.ptr 2 0)))]
 refine st 1 a7 (gp true y8 (vGToken p0) (fun hc => vl) (gcall_step (p := true) (b := y8) (m := sL4Quoted p0) (dflt := default) (args := [(vGToken p0)]) (v' := (fun y => (vB y))) h (by kernel_rfl) (OK_sL4Quoted p0) (fun hc => by kernel_rfl) (by kernel_rfl) (fun _ => rfl) (fun hc => (Eq.trans (b := ([(true && (y8 == false))] : List Bool).all id) (by kernel_rfl) (all_c hc rfl))) ?_))
 clear h; intro y9 h
 refine gp true y8 (vB y9) (fun hc => vg hc) (gp (true && (y8 == false)) y9 (vGToken p1) (fun hc => vl) ?_)
 refine gcall_step (p := (true && (y8 == false))) (b := y9) (m := sL4Quoted p1) (dflt := default) (args := [(vGToken p1)]) (v' := (fun y => (vB y))) h (by kernel_rfl) (OK_sL4Quoted p1) (fun hc => by kernel_rfl) (by kernel_rfl) (fun _ => rfl) (fun hc => (Eq.trans (b := ([((true && (y8 == false)) && (y9 == true))] : List Bool).all id) (by kernel_rfl) (all_c hc rfl))) ?_
 clear h; intro y10 h
 refine gv true y8 (fun (y : Bool) => (vB y)) h (fun y hy hc => vop_pickV hy (p := ((true && (y8 == false)) && (y9 == true))) (q := true) (Eq.trans (b := ([(true && (y8 == false))] : List Bool).all id) (by kernel_rfl) (all_c hc rfl)) (by kernel_rfl) (by kernel_rfl) (by kernel_rfl) (fun hb => gc_t hc hb) (fun _ => rfl)) fun y11 h => ?_
 refine vs (fun (y : Bool) => (vB y)) h (fun y hy => vop_pickV hy (p := true) (q := (true && (y8 == false))) (by kernel_rfl) (by kernel_rfl) (by kernel_rfl) (by kernel_rfl) (fun _ => rfl) (fun hb => gc_f rfl hb)) fun y12 h => (nx ?_)
 refine cd h (fun h => ?_) fun h => ?_
 refine so ?_
 let a8 : St := a7.p [(4, (vB true)), (36, (vB y12)), (35, (.ite (gF y8) (vB y11))), (34, (.ite ((gF y8) && (y9 == true)) (vB y10))), (33, (.ite ((gF y8) && (y9 == true)) (vGToken p1))), (32, (.ite (gF y8) (vB y9))), (31, (.ite (gF y8) (vB y9))), (30, (.ite (gF y8) (vGToken p0)))]
 refine st 1 a8 (nx (ri (tr ?_)))
 injection h with h; subst h
 exact r1 (v := (vB true))
 refine ki (xi (si (so ?_)))
 let a9 : St := a7.p [(40, (vB (!decide (p0.kind = 5)))), (39, (vB (!decide (p0.kind = 5)))), (38, (vI p0.kind)), (37, (.ptr 2 0)), (36, (vB y12)), (35, (.ite (gF y8) (vB y11))), (34, (.ite ((gF y8) && (y9 == true)) (vB y10))), (33, (.ite ((gF y8) && (y9 == true)) (vGToken p1))), (32, (.ite (gF y8) (vB y9))), (31, (.ite (gF y8) (vB y9))), (30, (.ite (gF y8) (vGToken p0)))]
 refine st 4 a9 (gp true (!decide (p0.kind = 5)) (.ptr 3 0) (fun hc => vl) (gp true (!decide (p0.kind = 5)) (vI p1.kind) (fun hc => vg hc) (gp true (!decide (p0.kind = 5)) (vB (!decide (p1.kind = 5))) (fun hc => vg hc) ?_)))
 refine vs (fun (y : Bool) => (vB y)) h (fun y hy => vop_pickV hy (p := true) (q := (true && ((!decide (p0.kind = 5)) == false))) (by kernel_rfl) (by kernel_rfl) (by kernel_rfl) (by kernel_rfl) (fun _ => rfl) (fun hb => gc_f rfl hb)) fun y13 h => (nx ?_)
 refine cd h (fun h => ?_) fun h => ?_
 refine so ?_
 let a10 : St := a9.p [(4, (vB false)), (44, (vB y13)), (43, (.ite (true && ((!decide (p0.kind = 5)) == false)) (vB (!decide (p1.kind = 5))))), (42, (.ite (true && ((!decide (p0.kind = 5)) == false)) (vI p1.kind))), (41, (.ite (true && ((!decide (p0.kind = 5)) == false)) (.ptr 3 0)))]
 refine st 1 a10 (nx (ri (tr ?_)))
 injection h with h; subst h
 exact r1 (v := (vB false))
 refine ki (xi (si (so ?_)))
 let a11 : St := a9.p [(46, (vS p0.text)), (45, (.ptr 2 1)), (44, (vB y13)), (43, (.ite (true && ((!decide (p0.kind = 5)) == false)) (vB (!decide (p1.kind = 5))))), (42, (.ite (true && ((!decide (p0.kind = 5)) == false)) (vI p1.kind))), (41, (.ite (true && ((!decide (p0.kind = 5)) == false)) (.ptr 3 0)))]
 refine st 2 a11 (nx (bi (so ?_)))
 let a12 : St := a11.p [(47, (vB (decide (p0.text = [45])))), (48, (vB (decide (p0.text = [45]))))]
 refine st 2 a12 (nx ?_)
 refine cd h (fun h => ?_) fun h => ?_
 refine so ?_
 let a13 : St := a12.p [(4, (vB (decide (p1.text = [45])))), (51, (vB (decide (p1.text = [45])))), (50, (vS p1.text)), (49, (.ptr 3 1))]
 refine st 4 a13 (nx (ri (br (tr ?_))))
 injection h with h; subst h
 exact r1 (v := (vB (decide (p1.text = [45]))))
 refine so ?_
 let a14 : St := a12.p [(52, (vB (decide (p0.text = [47])))), (53, (vB (decide (p0.text = [47]))))]
 refine st 2 a14 (nx ?_)
 refine cd h (fun h => ?_) fun h => ?_
 refine so ?_
 let a15 : St := a14.p [(4, (vB (decide (p1.text = [42])))), (56, (vB (decide (p1.text = [42])))), (55, (vS p1.text)), (54, (.ptr 3 1))]
 refine st 4 a15 (nx (ri (br (tr ?_))))
 injection h with h; subst h
 exact r1 (v := (vB (decide (p1.text = [42]))))
 refine so ?_
 let a16 : St := a14.p [(57, (vB (decide (p0.text = [60])))), (58, (vB (decide (p0.text = [60]))))]
 refine st 2 a16 (nx ?_)
 refine cd h (fun h => ?_) fun h => ?_
 refine so ?_
 let a17 : St := a16.p [(60, (vS p1.text)), (59, (.ptr 3 1))]
 refine st 2 a17 (vs (fun (y : Int) => (.d (.i .u8 y))) h (fun y hy => vop_ix (b := p1.text) (k := .i64) hy (by kernel_rfl) (by kernel_rfl) (by kernel_rfl)) fun y14 h => ?_)
 let a18 : St := a17.p [(63, (vB (decide (y14 = 61)))), (62, (vB (decide (y14 = 61)))), (61, (.d (.i .u8 y14)))]
 refine st 2 a18 (gp true (decide (y14 = 61)) (.ptr 3 1) (fun hc => vl) (gp true (decide (y14 = 61)) (vS p1.text) (fun hc => vg hc) (gv true (decide (y14 = 61)) (fun (y : Int) => (.d (.i .u8 y))) h (fun y hy hc => vop_ix (b := p1.text) (k := .i64) hy (Eq.trans (b := ([(true && ((decide (y14 = 61)) == false))] : List Bool).all id) (by kernel_rfl) (all_c hc rfl)) (by kernel_rfl) (by kernel_rfl)) fun y15 h => ?_)))
 refine gp true (decide (y14 = 61)) (vB (decide (y15 = 62))) (fun hc => vg hc) (vs (fun (y : Bool) => (vB y)) h (fun y hy => vop_pickV hy (p := true) (q := (true && ((decide (y14 = 61)) == false))) (by kernel_rfl) (by kernel_rfl) (by kernel_rfl) (by kernel_rfl) (fun _ => rfl) (fun hb => gc_f rfl hb)) fun y16 h => ?_)
 let a19 : St := a18.p [(4, (vB y16)), (68, (vB y16)), (67, (.ite (true && ((decide (y14 = 61)) == false)) (vB (decide (y15 = 62))))), (66, (.ite (true && ((decide (y14 = 61)) == false)) (.d (.i .u8 y15)))), (65, (.ite (true && ((decide (y14 = 61)) == false)) (vS p1.text))), (64, (.ite (true && ((decide (y14 = 61)) == false)) (.ptr 3 1)))]
 refine st 1 a19 (nx (ri (br (tr ?_))))
 injection h with h; subst h
 exact r1 (v := (vB y16))
 refine so ?_
 let a20 : St := a16.p [(69, (vB (decide (p0.text = [62])))), (70, (vB (decide (p0.text = [62]))))]
 refine st 2 a20 (nx ?_)
 refine cd h (fun h => ?_) fun h => ?_
 refine so ?_
 let a21 : St := a20.p [(72, (vS p1.text)), (71, (.ptr 3 1))]
 refine st 2 a21 (vs (fun (y : Int) => (.d (.i .u8 y))) h (fun y hy => vop_ix (b := p1.text) (k := .i64) hy (by kernel_rfl) (by kernel_rfl) (by kernel_rfl)) fun y17 h => ?_)
 let a22 : St := a21.p [(4, (vB (decide (y17 = 61)))), (74, (vB (decide (y17 = 61)))), (73, (.d (.i .u8 y17)))]
 refine st 2 a22 (nx (ri (br (tr ?_))))
 injection h with h; subst h
 exact r1 (v := (vB (decide (y17 = 61))))
 refine ki (bn (xi (so ?_)))
 let a23 : St := a20.p [(4, (vB false))]
 refine st 1 a23 (nx (ri ?_))
 injection h with h; subst h
 exact r1 (v := (vB false))
theorem OKs_sL4Join_J1 (p0 : (List GToken)) (p1 : Bool) : (∀ (x6 : Int) (x5_9 : (List Int)) (r : (List UInt8)), sL4Join_J1 p0 p1 x6 x5_9 = some r → avc Tryz.prog acsL4Join_J1 (qsL4Join_4 r) (stsL4Join_J1 p0 p1 x6 x5_9)) ∧ (∀ (x5 : (List Int)) (x6 : Int) (r : (List UInt8)), sL4Join_L0 p0 p1 x5 x6 = some r → avc Tryz.prog acsL4Join_L0 (qsL4Join_1 r) (stsL4Join_L0 p0 p1 x5 x6)) := by
 refine sL4Join_J1.mutual_partial_correctness p0 p1 (fun x6 x5_9 r => avc Tryz.prog acsL4Join_J1 (qsL4Join_4 r) (stsL4Join_J1 p0 p1 x6 x5_9)) (fun x5 x6 r => avc Tryz.prog acsL4Join_L0 (qsL4Join_1 r) (stsL4Join_L0 p0 p1 x5 x6)) ?_ ?_
 · intro F_sL4Join_L0 OK_sL4Join_L0 x6 x5_9 r h
   delta acsL4Join_J1
   refine oi ?_
   let a17 : St := (stsL4Join_J1 p0 p1 x6 x5_9).p [(42, (vI x6)), (41, (.d (.sl 3 (p0.map cGToken)))), (40, (.osl 5 5 1 (x5_9.map cU8)))]
   refine st 3 a17 (vs (fun (y : GToken) => (.rp (cGToken y))) h (fun y hy => via (l := p0) (f := cGToken) (g := cGToken) (k := .i64) hy (fun _ => rfl)) fun y11 h => ?_)
   let a18 : St := a17.p [(44, (vGToken y11)), (43, (.rp (cGToken y11)))]
   refine st 1 a18 (cs h (OK_sTokenText y11) fun y12 h => ?_)
   refine app_step (t := 5) (l := x5_9) (m := (toBytes y12)) (f := cU8) (S' := fun y => ⟨[(46, (.osl 46 5 1 (y.map cU8))), (45, (vS y12)), (44, (vGToken y11)), (43, (.rp (cGToken y11))), (42, (vI x6)), (41, (.d (.sl 3 (p0.map cGToken)))), (40, (.d (.sl 1 (x5_9.map cU8)))), (0, (.d (.sl 3 (p0.map cGToken)))), (1, (vB p1)), (5, (.d (.sl 1 (x5_9.map cU8)))), (6, (vI x6))], []⟩) h (by kernel_rfl) (by kernel_rfl) (by kernel_rfl) (by kernel_rfl) (fun y => by kernel_rfl) ?_
   clear h; intro y13 h
   let a19 : St := ⟨[(5, (.osl 5 5 1 (y13.map cU8))), (46, (.d (.sl 1 (y13.map cU8)))), (45, (vS y12)), (44, (vGToken y11)), (43, (.rp (cGToken y11))), (42, (vI x6)), (41, (.d (.sl 3 (p0.map cGToken)))), (40, (.d (.sl 1 (x5_9.map cU8)))), (0, (.d (.sl 3 (p0.map cGToken)))), (1, (vB p1)), (5, (.d (.sl 1 (x5_9.map cU8)))), (6, (vI x6))], []⟩
   refine st 1 a19 (ni (bn (xi (oi ?_))))
   let a20 : St := a19.p [(6, (vI (IntKind.wrap .i64 (x6 + 1)))), (13, (vI (IntKind.wrap .i64 (x6 + 1)))), (12, (vI x6))]
   exact st 3 a20 (ni (loop_back (s' := stsL4Join_L0 p0 p1 y13 (IntKind.wrap .i64 (x6 + 1))) (wr [(5, .old 5)] (es (es (eo 5 (es er_nil)))) br_nil) (OK_sL4Join_L0 y13 (IntKind.wrap .i64 (x6 + 1)) _ h)))
 · intro F_sL4Join_J1 OK_sL4Join_J1 x5 x6 r h
   delta acsL4Join_L0
   refine loop_unroll (si (so ?_))
   let a3 : St := (stsL4Join_L0 p0 p1 x5 x6).p [(9, (.d (.sl 3 (p0.map cGToken)))), (8, (vI x6))]
   refine st 2 a3 (ps (vI (ln p0)) (vln (sz := 3) (l := p0) (f := cGToken)) ?_)
   let a4 : St := a3.p [(11, (vB (decide (x6 < (ln p0))))), (10, (vI (ln p0)))]
   refine st 1 a4 (nx ?_)
   refine cd h (fun h => ?_) fun h => ?_
   refine ki (xi (si (bi (si (so ?_)))))
   let a5 : St := a4.p [(15, (vI x6)), (14, (.d (.sl 3 (p0.map cGToken))))]
   refine st 2 a5 (vs (fun (y : GToken) => (.rp (cGToken y))) h (fun y hy => via (l := p0) (f := cGToken) (g := cGToken) (k := .i64) hy (fun _ => rfl)) fun y1 h => ?_)
   let a6 : St := a5.p [(17, (vGToken y1)), (16, (.rp (cGToken y1)))]
   refine st 1 a6 (cs h (OK_sTokenOk y1) fun y2 h => ?_)
   let a7 : St := a6.p [(19, (vB (!y2))), (18, (vB y2))]
   refine st 1 a7 (nx ?_)
   refine cd h (fun h => ?_) fun h => ?_
   refine so ?_
   let a8 : St := a7.p [(4, (vS []))]
   refine st 1 a8 (nx (ri (tr (br (tr (tr (br (tr ?_))))))))
   injection h with h; subst h
   exact r1 (v := (vS []))
   refine ki (xi (si (si (dops_in ?_))))
   let a9 : St := a7.p [(22, (vB (decide (0 < x6)))), (21, (vB (decide (0 < x6)))), (20, (vI x6))]
   refine dsts_ok 3 (s' := a9) (by kernel_rfl) (dgp_step (p := true) (b := (decide (0 < x6))) (v' := (vB p1)) (by kernel_rfl) rfl rfl (fun hc => vl) (dgp_step (p := true) (b := (decide (0 < x6))) (v' := (vB p1)) (by kernel_rfl) rfl rfl (fun hc => vg hc) (dgp_step (p := (true && ((decide (0 < x6)) == true))) (b := p1) (v' := (.d (.sl 3 (p0.map cGToken)))) (by kernel_rfl) rfl rfl (fun hc => vl) ?_)))
   refine dgp_step (p := (true && ((decide (0 < x6)) == true))) (b := p1) (v' := (vI x6)) (by kernel_rfl) rfl rfl (fun hc => vl) (dgp_step (p := (true && ((decide (0 < x6)) == true))) (b := p1) (v' := (vI (IntKind.wrap .i64 (x6 - 1)))) (by kernel_rfl) rfl rfl (fun hc => vg hc) ?_)
   refine dgv_step (p := (true && ((decide (0 < x6)) == true))) (b := p1) (m := idx p0 (IntKind.wrap .i64 (x6 - 1))) (dflt := default) (v' := fun y => (.rp (cGToken y))) h (by kernel_rfl) rfl rfl (fun y hy hc => vop_ia (l := p0) (f := cGToken) (g := cGToken) (k := .i64) hy (fun _ => rfl) (Eq.trans (b := ([((true && ((decide (0 < x6)) == true)) && (p1 == false)), ((true && ((decide (0 < x6)) == true)) && (p1 == false))] : List Bool).all id) (by kernel_rfl) (all_c hc (all_c hc rfl))) (by kernel_rfl) (by kernel_rfl)) ?_
   clear h; intro y3 h
   refine dgp_step (p := (true && ((decide (0 < x6)) == true))) (b := p1) (v' := (vGToken y3)) (by kernel_rfl) rfl rfl (fun hc => vg hc) (dgp_step (p := (true && ((decide (0 < x6)) == true))) (b := p1) (v' := (.d (.sl 3 (p0.map cGToken)))) (by kernel_rfl) rfl rfl (fun hc => vl) (dgp_step (p := (true && ((decide (0 < x6)) == true))) (b := p1) (v' := (vI x6)) (by kernel_rfl) rfl rfl (fun hc => vl) ?_))
   refine dgv_step (p := (true && ((decide (0 < x6)) == true))) (b := p1) (m := idx p0 x6) (dflt := default) (v' := fun y => (.rp (cGToken y))) h (by kernel_rfl) rfl rfl (fun y hy hc => vop_ia (l := p0) (f := cGToken) (g := cGToken) (k := .i64) hy (fun _ => rfl) (Eq.trans (b := ([((true && ((decide (0 < x6)) == true)) && (p1 == false)), ((true && ((decide (0 < x6)) == true)) && (p1 == false))] : List Bool).all id) (by kernel_rfl) (all_c hc (all_c hc rfl))) (by kernel_rfl) (by kernel_rfl)) ?_
   clear h; intro y4 h
   refine dgp_step (p := (true && ((decide (0 < x6)) == true))) (b := p1) (v' := (vGToken y4)) (by kernel_rfl) rfl rfl (fun hc => vg hc) ?_
   refine dgcall_step (p := (true && ((decide (0 < x6)) == true))) (b := p1) (m := sNeedsGap y3 y4) (dflt := default) (args := [(vGToken y3), (vGToken y4)]) (v' := (fun y => (vB y))) h (by kernel_rfl) (OK_sNeedsGap y3 y4) (fun hc => by kernel_rfl) (by kernel_rfl) (fun _ => rfl) (fun hc => (Eq.trans (b := ([((true && ((decide (0 < x6)) == true)) && (p1 == false)), ((true && ((decide (0 < x6)) == true)) && (p1 == false))] : List Bool).all id) (by kernel_rfl) (all_c hc (all_c hc rfl)))) ?_
   clear h; intro y5 h
   refine dgv_step (p := true) (b := (decide (0 < x6))) (m := some (if p1 = true then true else y5)) (dflt := default) (v' := fun y => (vB y)) h (by kernel_rfl) rfl rfl (fun y hy hc => vop_pickV hy (p := true) (q := ((true && ((decide (0 < x6)) == true)) && (p1 == false))) (Eq.trans (b := ([(true && ((decide (0 < x6)) == true))] : List Bool).all id) (by kernel_rfl) (all_c hc rfl)) (by kernel_rfl) (by kernel_rfl) (by kernel_rfl) (fun _ => rfl) (fun hb => gc_f hc hb)) ?_
   clear h; intro y6 h
   refine dv_step (m := some (if (decide (0 < x6)) = true then y6 else false)) (v' := fun y => (vB y)) h rfl rfl (fun y hy => vop_pickV hy (p := (true && ((decide (0 < x6)) == true))) (q := true) (by kernel_rfl) (by kernel_rfl) (by kernel_rfl) (by kernel_rfl) (fun hb => gc_t rfl hb) (fun _ => rfl)) ?_
   clear h; intro y7 h
   refine dnil_in (by kernel_rfl) (by kernel_rfl) (xi ?_)
   refine cd h (fun h => ?_) fun h => ?_
   refine oi ?_
   let a10 : St := a9.p [(37, (.osl 5 5 1 (x5.map cU8))), (36, (vB y7)), (35, (.ite (true && ((decide (0 < x6)) == true)) (vB y6))), (34, (.ite ((true && ((decide (0 < x6)) == true)) && (p1 == false)) (vB y5))), (33, (.ite ((true && ((decide (0 < x6)) == true)) && (p1 == false)) (vGToken y4))), (32, (.ite ((true && ((decide (0 < x6)) == true)) && (p1 == false)) (.rp (cGToken y4)))), (31, (.ite ((true && ((decide (0 < x6)) == true)) && (p1 == false)) (vI x6))), (30, (.ite ((true && ((decide (0 < x6)) == true)) && (p1 == false)) (.d (.sl 3 (p0.map cGToken))))), (29, (.ite ((true && ((decide (0 < x6)) == true)) && (p1 == false)) (vGToken y3))), (28, (.ite ((true && ((decide (0 < x6)) == true)) && (p1 == false)) (.rp (cGToken y3)))), (27, (.ite ((true && ((decide (0 < x6)) == true)) && (p1 == false)) (vI (IntKind.wrap .i64 (x6 - 1))))), (26, (.ite ((true && ((decide (0 < x6)) == true)) && (p1 == false)) (vI x6))), (25, (.ite ((true && ((decide (0 < x6)) == true)) && (p1 == false)) (.d (.sl 3 (p0.map cGToken))))), (24, (.ite (true && ((decide (0 < x6)) == true)) (vB p1))), (23, (.ite (true && ((decide (0 < x6)) == true)) (vB p1)))]
   refine st 1 a10 (bsl_step (l := ([32] : List Int)) (f := cU8) (g := cU8) (by kernel_rfl) (fun _ => rfl) (by kernel_rfl) ?_)
   refine app_step (t := 5) (l := x5) (m := ([32] : List Int)) (f := cU8) (S' := fun y => ⟨[(39, (.osl 39 5 1 (y.map cU8))), (38, (.osl 38 5 1 (([32] : List Int).map cU8))), (37, (.d (.sl 1 (x5.map cU8)))), (36, (vB y7)), (35, (.ite (true && ((decide (0 < x6)) == true)) (vB y6))), (34, (.ite ((true && ((decide (0 < x6)) == true)) && (p1 == false)) (vB y5))), (33, (.ite ((true && ((decide (0 < x6)) == true)) && (p1 == false)) (vGToken y4))), (32, (.ite ((true && ((decide (0 < x6)) == true)) && (p1 == false)) (.rp (cGToken y4)))), (31, (.ite ((true && ((decide (0 < x6)) == true)) && (p1 == false)) (vI x6))), (30, (.ite ((true && ((decide (0 < x6)) == true)) && (p1 == false)) (.d (.sl 3 (p0.map cGToken))))), (29, (.ite ((true && ((decide (0 < x6)) == true)) && (p1 == false)) (vGToken y3))), (28, (.ite ((true && ((decide (0 < x6)) == true)) && (p1 == false)) (.rp (cGToken y3)))), (27, (.ite ((true && ((decide (0 < x6)) == true)) && (p1 == false)) (vI (IntKind.wrap .i64 (x6 - 1))))), (26, (.ite ((true && ((decide (0 < x6)) == true)) && (p1 == false)) (vI x6))), (25, (.ite ((true && ((decide (0 < x6)) == true)) && (p1 == false)) (.d (.sl 3 (p0.map cGToken))))), (24, (.ite (true && ((decide (0 < x6)) == true)) (vB p1))), (23, (.ite (true && ((decide (0 < x6)) == true)) (vB p1))), (22, (vB (decide (0 < x6)))), (21, (vB (decide (0 < x6)))), (20, (vI x6)), (19, (vB (!y2))), (18, (vB y2)), (17, (vGToken y1)), (16, (.rp (cGToken y1))), (15, (vI x6)), (14, (.d (.sl 3 (p0.map cGToken)))), (11, (vB (decide (x6 < (ln p0))))), (10, (vI (ln p0))), (9, (.d (.sl 3 (p0.map cGToken)))), (8, (vI x6)), (0, (.d (.sl 3 (p0.map cGToken)))), (1, (vB p1)), (5, (.d (.sl 1 (x5.map cU8)))), (6, (vI x6))], []⟩) h (by kernel_rfl) (by kernel_rfl) (by kernel_rfl) (by kernel_rfl) (fun y => by kernel_rfl) ?_
   clear h; intro y8 h
   let a11 : St := ⟨[(5, (.osl 5 5 1 (y8.map cU8))), (39, (.d (.sl 1 (y8.map cU8)))), (38, (.osl 38 5 1 (([32] : List Int).map cU8))), (37, (.d (.sl 1 (x5.map cU8)))), (36, (vB y7)), (35, (.ite (true && ((decide (0 < x6)) == true)) (vB y6))), (34, (.ite ((true && ((decide (0 < x6)) == true)) && (p1 == false)) (vB y5))), (33, (.ite ((true && ((decide (0 < x6)) == true)) && (p1 == false)) (vGToken y4))), (32, (.ite ((true && ((decide (0 < x6)) == true)) && (p1 == false)) (.rp (cGToken y4)))), (31, (.ite ((true && ((decide (0 < x6)) == true)) && (p1 == false)) (vI x6))), (30, (.ite ((true && ((decide (0 < x6)) == true)) && (p1 == false)) (.d (.sl 3 (p0.map cGToken))))), (29, (.ite ((true && ((decide (0 < x6)) == true)) && (p1 == false)) (vGToken y3))), (28, (.ite ((true && ((decide (0 < x6)) == true)) && (p1 == false)) (.rp (cGToken y3)))), (27, (.ite ((true && ((decide (0 < x6)) == true)) && (p1 == false)) (vI (IntKind.wrap .i64 (x6 - 1))))), (26, (.ite ((true && ((decide (0 < x6)) == true)) && (p1 == false)) (vI x6))), (25, (.ite ((true && ((decide (0 < x6)) == true)) && (p1 == false)) (.d (.sl 3 (p0.map cGToken))))), (24, (.ite (true && ((decide (0 < x6)) == true)) (vB p1))), (23, (.ite (true && ((decide (0 < x6)) == true)) (vB p1))), (22, (vB (decide (0 < x6)))), (21, (vB (decide (0 < x6)))), (20, (vI x6)), (19, (vB (!y2))), (18, (vB y2)), (17, (vGToken y1)), (16, (.rp (cGToken y1))), (15, (vI x6)), (14, (.d (.sl 3 (p0.map cGToken)))), (11, (vB (decide (x6 < (ln p0))))), (10, (vI (ln p0))), (9, (.d (.sl 3 (p0.map cGToken)))), (8, (vI x6)), (0, (.d (.sl 3 (p0.map cGToken)))), (1, (vB p1)), (5, (.d (.sl 1 (x5.map cU8)))), (6, (vI x6))], []⟩
   exact st 1 a11 (ni (next_step (s' := stsL4Join_J1 p0 p1 x6 y8) (wr [(5, .old 5)] (es (es (eo 5 (es er_nil)))) br_nil) (OK_sL4Join_J1 x6 y8 _ h)))
   exact ki (next_step (s' := stsL4Join_J1 p0 p1 x6 x5) (wr [(5, .old 5)] (es (es (eo 5 (es er_nil)))) br_nil) (OK_sL4Join_J1 x6 x5 _ h))
   refine ei (te (te (bh (xi (si (so ?_))))))
   let a12 : St := a4.p [(47, (.osl 5 5 1 (x5.map cU8)))]
   refine st 1 a12 (ps (vI (ln x5)) (vln (sz := 1) (l := x5) (f := cU8)) ?_)
   let a13 : St := a12.p [(49, (vB (decide (2000 < (ln x5))))), (48, (vI (ln x5)))]
   refine st 1 a13 (nx ?_)
   refine cd h (fun h => ?_) fun h => ?_
   refine so ?_
   let a14 : St := a13.p [(4, (vS []))]
   refine st 1 a14 (nx (ri (tr ?_)))
   injection h with h; subst h
   exact r1 (v := (vS []))
   refine ki (xi (so ?_))
   let a15 : St := a13.p [(50, (.osl 5 5 1 (x5.map cU8)))]
   refine st 1 a15 (vs (fun (y : (List UInt8)) => (vS y)) h (fun y hy => vop_cbs (l := x5) hy (by kernel_rfl) (by kernel_rfl)) fun y10 h => ?_)
   let a16 : St := a15.p [(4, (vS y10)), (51, (vS y10))]
   refine st 1 a16 (nx (ri ?_))
   injection h with h; subst h
   exact r1 (v := (vS y10))
theorem OK_sL4Join_J1 (p0 : (List GToken)) (p1 : Bool) (x6 : Int) (x5_9 : (List Int)) (r : (List UInt8)) (h : sL4Join_J1 p0 p1 x6 x5_9 = some r) : avc Tryz.prog acsL4Join_J1 (qsL4Join_4 r) (stsL4Join_J1 p0 p1 x6 x5_9) := (OKs_sL4Join_J1 p0 p1).1 x6 x5_9 r h
theorem OK_sL4Join_L0 (p0 : (List GToken)) (p1 : Bool) (x5 : (List Int)) (x6 : Int) (r : (List UInt8)) (h : sL4Join_L0 p0 p1 x5 x6 = some r) : avc Tryz.prog acsL4Join_L0 (qsL4Join_1 r) (stsL4Join_L0 p0 p1 x5 x6) := (OKs_sL4Join_J1 p0 p1).2 x5 x6 r h
theorem OK_sL4Join (p0 : (List GToken)) (p1 : Bool) : FOk Tryz.prog 29 [(.d (.sl 3 (p0.map cGToken))), (vB p1)] (fun y => (vS y)) (sL4Join p0 p1) := by
 intro r h
 rw [sL4Join] at h
 refine aof trsL4Join ?_
 show avc Tryz.prog acsL4Join (qsL4Join _) ⟨[(0, (.d (.sl 3 (p0.map cGToken)))), (1, (vB p1))], []⟩
 delta acsL4Join
 refine so ?_
 let a0 : St := ⟨[(4, (vS [])), (0, (.d (.sl 3 (p0.map cGToken)))), (1, (vB p1))], []⟩
 refine st 1 a0 (nx (so (bsl_step (l := ([] : List Int)) (f := cU8) (g := cU8) (by kernel_rfl) (fun _ => rfl) (by kernel_rfl) ?_)))
 let a1 : St := a0.p [(5, (.osl 5 5 1 (([] : List Int).map cU8))), (7, (.d (.sl 1 (([] : List Int).map cU8))))]
 refine st 1 a1 (nx (si (so ?_)))
 let a2 : St := a1.p [(6, (vI 0))]
 exact st 1 a2 (nx (bi (loop_go (s' := stsL4Join_L0 p0 p1 ([] : List Int) 0) (wr [(5, .old 5)] (es (es (eo 5 (es er_nil)))) br_nil) (OK_sL4Join_L0 p0 p1 ([] : List Int) 0 _ h))))
theorem OK_sSpaced (p0 : (List GToken)) : FOk Tryz.prog 14 [(.d (.sl 3 (p0.map cGToken)))] (fun y => (vS y)) (sSpaced p0) := by
 intro r h
 rw [sSpaced] at h
 refine aof trsSpaced ?_
 show avc Tryz.prog acsSpaced (qsSpaced _) ⟨[(0, (.d (.sl 3 (p0.map cGToken))))], []⟩
 delta acsSpaced
 refine so ?_
 let a0 : St := ⟨[(2, (vS [])), (0, (.d (.sl 3 (p0.map cGToken))))], []⟩
 refine st 1 a0 (nx (so ?_))
 let a1 : St := a0.p [(3, (.d (.sl 3 (p0.map cGToken))))]
 refine st 1 a1 (cs h (OK_sL4Join p0 false) fun y1 h => ?_)
 let a2 : St := a1.p [(2, (vS y1)), (4, (vS y1))]
 refine st 1 a2 (nx (ri ?_))
 injection h with h; subst h
 exact r1 (v := (vS y1))
theorem OK_sSqueeze (p0 : (List UInt8)) : FOk Tryz.prog 20 [(vS p0)] (fun y => (.tup [(vS y.1), (vI y.2)])) (sSqueeze p0) := by
 intro r h
 rw [sSqueeze] at h
 refine aof trsSqueeze ?_
 show avc Tryz.prog acsSqueeze (qsSqueeze _) ⟨[(0, (vS p0))], []⟩
 delta acsSqueeze
 refine so ?_
 let a0 : St := ⟨[(3, (vI 0)), (2, (vS [])), (0, (vS p0))], []⟩
 refine st 2 a0 (nx (so ?_))
 let a1 : St := a0.p [(7, (vS p0))]
 refine st 1 a1 (callg_step ⟨[], [], [], [], [], [(2000000, 5007000)], [], [5007000], []⟩ (m := sLex p0) (S' := fun (y : (List GToken) × Int) => ⟨(8, (.tup [(.osl 5007000 53 3 (y.1.map cGToken)), (vI y.2)])) :: a1.env, a1.bx⟩) h (OK_sLex p0) (by kernel_rfl) (by kernel_rfl) (by kernel_rfl) (by kernel_rfl) (fun y => by kernel_rfl) (fun y => by kernel_rfl) ?_)
 clear h; intro y1 h
 let a2 : St := a1.p [(5, (vI y1.2)), (4, (.osl 4 53 3 (y1.1.map cGToken))), (10, (vI y1.2)), (9, (.d (.sl 3 (y1.1.map cGToken)))), (6, (.tup [(.d (.sl 3 (y1.1.map cGToken))), (vI y1.2)])), (8, (.tup [(.d (.sl 3 (y1.1.map cGToken))), (vI y1.2)]))]
 refine st 5 a2 (nx (si (so ?_)))
 let a3 : St := a2.p [(12, (vB (decide (0 ≤ y1.2)))), (11, (vI y1.2))]
 refine st 2 a3 (nx ?_)
 refine cd h (fun h => ?_) fun h => ?_
 refine so ?_
 let a4 : St := a3.p [(3, (vI y1.2)), (2, (vS [])), (13, (vI y1.2))]
 refine st 3 a4 (nx (ri (tr ?_)))
 injection h with h; subst h
 exact retn_step (vs := [(vS []), (vI y1.2)]) (by kernel_rfl) (by kernel_rfl)
 refine ki (xi (so ?_))
 let a5 : St := a3.p [(14, (.osl 4 53 3 (y1.1.map cGToken)))]
 refine st 1 a5 (cs h (OK_sSpaced y1.1) fun y2 h => ?_)
 let a6 : St := a5.p [(3, (vI (-1))), (2, (vS y2)), (15, (vS y2))]
 refine st 2 a6 (nx (ri ?_))
 injection h with h; subst h
 exact retn_step (vs := [(vS y2), (vI (-1))]) (by kernel_rfl) (by kernel_rfl)
theorem OK_wFnExactSqueeze (p0 : (List UInt8)) : FOk Tryz.prog 6 [(vS p0)] (fun y => (vB y)) (wFnExactSqueeze p0) := by
 intro r h
 rw [wFnExactSqueeze] at h
 refine aof trwFnExactSqueeze ?_
 show avc Tryz.prog acwFnExactSqueeze (qwFnExactSqueeze _) ⟨[(0, (vS p0))], []⟩
 delta acwFnExactSqueeze
 refine so ?_
 let a0 : St := ⟨[(2, (vB false)), (0, (vS p0))], []⟩
 refine st 1 a0 (nx (si (so ?_)))
 let a1 : St := a0.p [(9, (vB (decide (1048576 < (ln p0))))), (8, (vI (ln p0))), (7, (vS p0))]
 refine st 3 a1 (nx ?_)
 refine cd h (fun h => ?_) fun h => ?_
 refine so ?_
 let a2 : St := a1.p [(2, (vB true))]
 refine st 1 a2 (nx (ri (tr ?_)))
 injection h with h; subst h
 exact r1 (v := (vB true))
 refine ki (xi (so ?_))
 let a3 : St := a1.p [(11, (vS p0))]
 refine st 1 a3 (cs h (OK_sSqueeze p0) fun y1 h => ?_)
 let a4 : St := a3.p [(4, (vI y1.2)), (3, (vS y1.1)), (14, (vI y1.2)), (13, (vS y1.1)), (10, (.tup [(vS y1.1), (vI y1.2)])), (12, (.tup [(vS y1.1), (vI y1.2)]))]
 refine st 5 a4 (nx (so ?_))
 let a5 : St := a4.p [(16, (vS p0))]
 refine st 1 a5 (cs h (OK_iSqueeze p0) fun y2 h => ?_)
 let a6 : St := a5.p [(6, (vI y2.2)), (5, (vS y2.1)), (19, (vI y2.2)), (18, (vS y2.1)), (15, (.tup [(vS y2.1), (vI y2.2)])), (17, (.tup [(vS y2.1), (vI y2.2)]))]
 refine st 5 a6 (nx (si (so ?_)))
 let a7 : St := a6.p [(23, (vB (!decide (y2.1 = y1.1)))), (22, (vB (!decide (y2.1 = y1.1)))), (21, (vS y1.1)), (20, (vS y2.1))]
 refine st 4 a7 (gp true (!decide (y2.1 = y1.1)) (vI y2.2) (fun hc => vl) (gp true (!decide (y2.1 = y1.1)) (vI y1.2) (fun hc => vl) (gp true (!decide (y2.1 = y1.1)) (vB (!decide (y2.2 = y1.2))) (fun hc => vop_val1 (Eq.trans (b := ([(true && ((!decide (y2.1 = y1.1)) == false)), (true && ((!decide (y2.1 = y1.1)) == false))] : List Bool).all id) (by kernel_rfl) (all_c hc (all_c hc rfl))) (by kernel_rfl)) ?_)))
 refine vs (fun (y : Bool) => (vB y)) h (fun y hy => vop_pickV hy (p := true) (q := (true && ((!decide (y2.1 = y1.1)) == false))) (by kernel_rfl) (by kernel_rfl) (by kernel_rfl) (by kernel_rfl) (fun _ => rfl) (fun hb => gc_f rfl hb)) fun y3 h => (nx ?_)
 refine cd h (fun h => ?_) fun h => ?_
 refine so ?_
 let a8 : St := a7.p [(2, (vB false)), (27, (vB y3)), (26, (.ite (true && ((!decide (y2.1 = y1.1)) == false)) (vB (!decide (y2.2 = y1.2))))), (25, (.ite (true && ((!decide (y2.1 = y1.1)) == false)) (vI y1.2))), (24, (.ite (true && ((!decide (y2.1 = y1.1)) == false)) (vI y2.2)))]
 refine st 1 a8 (nx (ri (tr ?_)))
 injection h with h; subst h
 exact r1 (v := (vB false))
 refine ki (xi (so ?_))
 let a9 : St := a7.p [(2, (vB true)), (27, (vB y3)), (26, (.ite (true && ((!decide (y2.1 = y1.1)) == false)) (vB (!decide (y2.2 = y1.2))))), (25, (.ite (true && ((!decide (y2.1 = y1.1)) == false)) (vI y1.2))), (24, (.ite (true && ((!decide (y2.1 = y1.1)) == false)) (vI y2.2)))]
 refine st 1 a9 (nx (ri ?_))
 injection h with h; subst h
 exact r1 (v := (vB true))
theorem law_wFnExactSqueeze (hp : ∀ (x0 : (List UInt8)) (_ : okS x0), wFnExactSqueeze x0 = some true) (ls : List (List D)) (hw : WtA Tryz.prog [9] ls) (hok : ∀ l ∈ ls, ∀ x ∈ l, OkD x) : ACalls Tryz.prog 6 (argsV Tryz.prog [9] ls) [] fun x _ => x = .d (.b true) := by
  rcases hw with _ | ⟨h0, hw⟩
  cases hw
  obtain ⟨x0, rfl⟩ := de9 h0
  have a0 : argV Tryz.prog 9 (cStr x0) = (vS x0) := by kernel_rfl
  have k0 : ∀ d ∈ cStr x0, OkD d := hok _ (by simp)
  simp only [argsV, a0]
  exact OK_wFnExactSqueeze x0 true (hp x0 (ko_s _ k0))
end Go.Proofs.YtechmmnknmdacaaGreatDoor
