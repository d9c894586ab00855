/- That the code computes these functions (printed by a program). -/
import Derived.Test.YtdiknmniclancaaCExactStmtDepth0
namespace Go.Proofs.Ytdiknmniclancaa
open Go Go.RowKit Go.Ab
theorem OKs_wSzExprSS_L0 (p0 : (List (List GExpr))) : (∀ (x1 : Int) (x5 : Int) (r : Int), wSzExprSS_L0 p0 x1 x5 = some r → avc Try.prog acwSzExprSS_L0 (qwSzExprSS_1 r) (stwSzExprSS_L0 p0 x1 x5)) := by
 refine wSzExprSS_L0.partial_correctness p0 (fun x1 x5 r => avc Try.prog acwSzExprSS_L0 (qwSzExprSS_1 r) (stwSzExprSS_L0 p0 x1 x5)) ?_
 · intro F_wSzExprSS_L0 OK_wSzExprSS_L0 x1 x5 r h
   delta acwSzExprSS_L0
   refine loop_unroll (si (so ?_))
   let a6 : St := (stwSzExprSS_L0 p0 x1 x5).p [(13, (.d (.sl 1 (p0.map (cSl 10 cGExpr))))), (12, (vI x5))]
   refine st 2 a6 (ps (vI (p0.length : Int)) (vop_len (sz := 1) (l := p0) (f := (cSl 10 cGExpr)) (by kernel_rfl) (by kernel_rfl)) ?_)
   let a7 : St := a6.p [(15, (vB (decide (x5 < (p0.length : Int))))), (14, (vI (p0.length : Int)))]
   refine st 1 a7 (nx ?_)
   refine cd h (fun h => ?_) fun h => ?_
   refine ki (xi (si (bi (so ?_))))
   let a8 : St := a7.p [(19, (vI x5)), (18, (.d (.sl 1 (p0.map (cSl 10 cGExpr)))))]
   refine st 2 a8 (vs (fun (y : (List GExpr)) => (.rp [(.sl 10 (y.map cGExpr))])) h (fun y hy => vop_ia (l := p0) (f := (cSl 10 cGExpr)) (g := (cSl 10 cGExpr)) (k := .i64) hy (fun _ => rfl) (by kernel_rfl) (by kernel_rfl) (by kernel_rfl)) fun y1 h => ?_)
   let a9 : St := a8.p [(22, (vI x1)), (21, (.d (.sl 10 (y1.map cGExpr)))), (20, (.rp [(.sl 10 (y1.map cGExpr))]))]
   refine st 2 a9 (cs h (OK_wSzExprS y1 x1) fun y2 h => ?_)
   let a10 : St := a9.p [(1, (vI y2)), (23, (vI y2))]
   refine st 1 a10 (nx (so ?_))
   let a11 : St := a10.p [(25, (vB (decide (y2 < 0)))), (24, (vI y2))]
   refine st 2 a11 (nx ?_)
   refine cd h (fun h => ?_) fun h => ?_
   refine so ?_
   let a12 : St := a11.p [(4, (vI (-1)))]
   refine st 1 a12 (nx (ri (br (tr (tr (br (tr ?_)))))))
   injection h with h; subst h
   exact ret1_step (v := (vI (-1))) (by kernel_rfl) (by kernel_rfl) (by kernel_rfl)
   refine ki (bn (xi (oi ?_)))
   let a13 : St := a11.p [(5, (vI (IntKind.wrap .i64 (x5 + 1)))), (17, (vI (IntKind.wrap .i64 (x5 + 1)))), (16, (vI x5))]
   exact st 3 a13 (ni (loop_back (s' := stwSzExprSS_L0 p0 y2 (IntKind.wrap .i64 (x5 + 1))) (wr [] (es (es (es er_nil))) br_nil) (OK_wSzExprSS_L0 y2 (IntKind.wrap .i64 (x5 + 1)) _ h)))
   refine ei (te (te (bh (xi (so ?_)))))
   let a14 : St := a7.p [(4, (vI x1)), (26, (vI x1))]
   refine st 2 a14 (nx (ri ?_))
   injection h with h; subst h
   exact ret1_step (v := (vI x1)) (by kernel_rfl) (by kernel_rfl) (by kernel_rfl)
theorem OK_wSzExprSS_L0 (p0 : (List (List GExpr))) (x1 : Int) (x5 : Int) (r : Int) (h : wSzExprSS_L0 p0 x1 x5 = some r) : avc Try.prog acwSzExprSS_L0 (qwSzExprSS_1 r) (stwSzExprSS_L0 p0 x1 x5) := (OKs_wSzExprSS_L0 p0) x1 x5 r h
theorem OK_wSzExprSS (p0 : (List (List GExpr))) (p1 : Int) : FOk Try.prog 90 [(.d (.sl 1 (p0.map (cSl 10 cGExpr)))), (vI p1)] (fun y => (vI y)) (wSzExprSS p0 p1) := by
 intro r h
 rw [wSzExprSS] at h
 refine acalls_of_fn trwSzExprSS (Nat.le_of_ble_eq_true rfl) (by simp) ?_
 show avc Try.prog acwSzExprSS (qwSzExprSS _) ⟨[(0, (.d (.sl 1 (p0.map (cSl 10 cGExpr))))), (1, (vI p1))], []⟩
 delta acwSzExprSS
 refine so ?_
 let a0 : St := ⟨[(4, (vI 0)), (0, (.d (.sl 1 (p0.map (cSl 10 cGExpr))))), (1, (vI p1))], []⟩
 refine st 1 a0 (nx (so ?_))
 let a1 : St := a0.p [(7, (.d (.sl 1 (p0.map (cSl 10 cGExpr))))), (6, (vI p1))]
 refine st 2 a1 (ps (vI (p0.length : Int)) (vop_len (sz := 1) (l := p0) (f := (cSl 10 cGExpr)) (by kernel_rfl) (by kernel_rfl)) ?_)
 let a2 : St := a1.p [(1, (vI (IntKind.wrap .i64 (p1 - (p0.length : Int))))), (9, (vI (IntKind.wrap .i64 (p1 - (p0.length : Int))))), (8, (vI (p0.length : Int)))]
 refine st 2 a2 (nx (si (so ?_)))
 let a3 : St := a2.p [(11, (vB (decide ((IntKind.wrap .i64 (p1 - (p0.length : Int))) < 0)))), (10, (vI (IntKind.wrap .i64 (p1 - (p0.length : Int)))))]
 refine st 2 a3 (nx ?_)
 refine cd h (fun h => ?_) fun h => ?_
 refine so ?_
 let a4 : St := a3.p [(4, (vI (-1)))]
 refine st 1 a4 (nx (ri (tr ?_)))
 injection h with h; subst h
 exact ret1_step (v := (vI (-1))) (by kernel_rfl) (by kernel_rfl) (by kernel_rfl)
 refine ki (xi (si (so ?_)))
 let a5 : St := a3.p [(5, (vI 0))]
 exact st 1 a5 (nx (bi (loop_go (s' := stwSzExprSS_L0 p0 (IntKind.wrap .i64 (p1 - (p0.length : Int))) 0) (wr [] (es (es (es er_nil))) br_nil) (OK_wSzExprSS_L0 p0 (IntKind.wrap .i64 (p1 - (p0.length : Int))) 0 _ h))))
theorem OKs_wSzStringS_L0 (p0 : (List (List UInt8))) : (∀ (x1 : Int) (x5 : Int) (r : Int), wSzStringS_L0 p0 x1 x5 = some r → avc Try.prog acwSzStringS_L0 (qwSzStringS_1 r) (stwSzStringS_L0 p0 x1 x5)) := by
 refine wSzStringS_L0.partial_correctness p0 (fun x1 x5 r => avc Try.prog acwSzStringS_L0 (qwSzStringS_1 r) (stwSzStringS_L0 p0 x1 x5)) ?_
 · intro F_wSzStringS_L0 OK_wSzStringS_L0 x1 x5 r h
   delta acwSzStringS_L0
   refine loop_unroll (si (so ?_))
   let a6 : St := (stwSzStringS_L0 p0 x1 x5).p [(13, (.d (.sl 1 (p0.map cStr)))), (12, (vI x5))]
   refine st 2 a6 (ps (vI (p0.length : Int)) (vop_len (sz := 1) (l := p0) (f := cStr) (by kernel_rfl) (by kernel_rfl)) ?_)
   let a7 : St := a6.p [(15, (vB (decide (x5 < (p0.length : Int))))), (14, (vI (p0.length : Int)))]
   refine st 1 a7 (nx ?_)
   refine cd h (fun h => ?_) fun h => ?_
   refine ki (xi (si (bi (so ?_))))
   let a8 : St := a7.p [(20, (vI x5)), (19, (.d (.sl 1 (p0.map cStr)))), (18, (vI x1))]
   refine st 3 a8 (vs (fun (y : (List UInt8)) => (.rp [(.s (bs y))])) h (fun y hy => vop_ia (l := p0) (f := cStr) (g := cStr) (k := .i64) hy (fun _ => rfl) (by kernel_rfl) (by kernel_rfl) (by kernel_rfl)) fun y1 h => ?_)
   let a9 : St := a8.p [(1, (vI (IntKind.wrap .i64 (x1 - (y1.length : Int))))), (24, (vI (IntKind.wrap .i64 (x1 - (y1.length : Int))))), (23, (vI (y1.length : Int))), (22, (vS y1)), (21, (.rp [(.s (bs y1))]))]
   refine st 4 a9 (nx (so ?_))
   let a10 : St := a9.p [(26, (vB (decide ((IntKind.wrap .i64 (x1 - (y1.length : Int))) < 0)))), (25, (vI (IntKind.wrap .i64 (x1 - (y1.length : Int)))))]
   refine st 2 a10 (nx ?_)
   refine cd h (fun h => ?_) fun h => ?_
   refine so ?_
   let a11 : St := a10.p [(4, (vI (-1)))]
   refine st 1 a11 (nx (ri (br (tr (tr (br (tr ?_)))))))
   injection h with h; subst h
   exact ret1_step (v := (vI (-1))) (by kernel_rfl) (by kernel_rfl) (by kernel_rfl)
   refine ki (bn (xi (oi ?_)))
   let a12 : St := a10.p [(5, (vI (IntKind.wrap .i64 (x5 + 1)))), (17, (vI (IntKind.wrap .i64 (x5 + 1)))), (16, (vI x5))]
   exact st 3 a12 (ni (loop_back (s' := stwSzStringS_L0 p0 (IntKind.wrap .i64 (x1 - (y1.length : Int))) (IntKind.wrap .i64 (x5 + 1))) (wr [] (es (es (es er_nil))) br_nil) (OK_wSzStringS_L0 (IntKind.wrap .i64 (x1 - (y1.length : Int))) (IntKind.wrap .i64 (x5 + 1)) _ h)))
   refine ei (te (te (bh (xi (so ?_)))))
   let a13 : St := a7.p [(4, (vI x1)), (27, (vI x1))]
   refine st 2 a13 (nx (ri ?_))
   injection h with h; subst h
   exact ret1_step (v := (vI x1)) (by kernel_rfl) (by kernel_rfl) (by kernel_rfl)
theorem OK_wSzStringS_L0 (p0 : (List (List UInt8))) (x1 : Int) (x5 : Int) (r : Int) (h : wSzStringS_L0 p0 x1 x5 = some r) : avc Try.prog acwSzStringS_L0 (qwSzStringS_1 r) (stwSzStringS_L0 p0 x1 x5) := (OKs_wSzStringS_L0 p0) x1 x5 r h
theorem OK_wSzStringS (p0 : (List (List UInt8))) (p1 : Int) : FOk Try.prog 91 [(.d (.sl 1 (p0.map cStr))), (vI p1)] (fun y => (vI y)) (wSzStringS p0 p1) := by
 intro r h
 rw [wSzStringS] at h
 refine acalls_of_fn trwSzStringS (Nat.le_of_ble_eq_true rfl) (by simp) ?_
 show avc Try.prog acwSzStringS (qwSzStringS _) ⟨[(0, (.d (.sl 1 (p0.map cStr)))), (1, (vI p1))], []⟩
 delta acwSzStringS
 refine so ?_
 let a0 : St := ⟨[(4, (vI 0)), (0, (.d (.sl 1 (p0.map cStr)))), (1, (vI p1))], []⟩
 refine st 1 a0 (nx (so ?_))
 let a1 : St := a0.p [(7, (.d (.sl 1 (p0.map cStr)))), (6, (vI p1))]
 refine st 2 a1 (ps (vI (p0.length : Int)) (vop_len (sz := 1) (l := p0) (f := cStr) (by kernel_rfl) (by kernel_rfl)) ?_)
 let a2 : St := a1.p [(1, (vI (IntKind.wrap .i64 (p1 - (p0.length : Int))))), (9, (vI (IntKind.wrap .i64 (p1 - (p0.length : Int))))), (8, (vI (p0.length : Int)))]
 refine st 2 a2 (nx (si (so ?_)))
 let a3 : St := a2.p [(11, (vB (decide ((IntKind.wrap .i64 (p1 - (p0.length : Int))) < 0)))), (10, (vI (IntKind.wrap .i64 (p1 - (p0.length : Int)))))]
 refine st 2 a3 (nx ?_)
 refine cd h (fun h => ?_) fun h => ?_
 refine so ?_
 let a4 : St := a3.p [(4, (vI (-1)))]
 refine st 1 a4 (nx (ri (tr ?_)))
 injection h with h; subst h
 exact ret1_step (v := (vI (-1))) (by kernel_rfl) (by kernel_rfl) (by kernel_rfl)
 refine ki (xi (si (so ?_)))
 let a5 : St := a3.p [(5, (vI 0))]
 exact st 1 a5 (nx (bi (loop_go (s' := stwSzStringS_L0 p0 (IntKind.wrap .i64 (p1 - (p0.length : Int))) 0) (wr [] (es (es (es er_nil))) br_nil) (OK_wSzStringS_L0 p0 (IntKind.wrap .i64 (p1 - (p0.length : Int))) 0 _ h))))
theorem OK_wSzStmt (p0 : GStmt) (p1 : Int) : FOk Try.prog 33 [(vGStmt p0), (vI p1)] (fun y => (vI y)) (wSzStmt p0 p1) := by
 intro r h
 rw [wSzStmt] at h
 refine acalls_of_fn trwSzStmt (Nat.le_of_ble_eq_true rfl) (by simp) ?_
 show avc Try.prog acwSzStmt (qwSzStmt _) ⟨[(0, (vGStmt p0)), (1, (vI p1))], []⟩
 delta acwSzStmt
 refine so ?_
 let a0 : St := ⟨[(4, (vI 0)), (2, (.ptr 2 0)), (0, (vGStmt p0)), (1, (vI p1))], [(2, bGStmt p0)]⟩
 refine st 2 a0 (nx (so ?_))
 let a1 : St := a0.p [(7, (vI p1)), (6, (vGQuery p0.query)), (5, (.ptr 2 1))]
 refine st 3 a1 (cs h (OK_wSzQuery p0.query p1) fun y1 h => ?_)
 let a2 : St := a1.p [(1, (vI y1)), (8, (vI y1))]
 refine st 1 a2 (nx (si (so ?_)))
 let a3 : St := a2.p [(10, (vB (decide (y1 < 0)))), (9, (vI y1))]
 refine st 2 a3 (nx ?_)
 refine cd h (fun h => ?_) fun h => ?_
 refine so ?_
 let a4 : St := a3.p [(4, (vI (-1)))]
 refine st 1 a4 (nx (ri (tr ?_)))
 injection h with h; subst h
 exact ret1_step (v := (vI (-1))) (by kernel_rfl) (by kernel_rfl) (by kernel_rfl)
 refine ki (xi (so ?_))
 let a5 : St := a3.p [(1, (vI (IntKind.wrap .i64 (y1 - (p0.table.length : Int))))), (15, (vI (IntKind.wrap .i64 (y1 - (p0.table.length : Int))))), (14, (vI (p0.table.length : Int))), (13, (vS p0.table)), (12, (.ptr 2 7)), (11, (vI y1))]
 refine st 6 a5 (nx (si (so ?_)))
 let a6 : St := a5.p [(17, (vB (decide ((IntKind.wrap .i64 (y1 - (p0.table.length : Int))) < 0)))), (16, (vI (IntKind.wrap .i64 (y1 - (p0.table.length : Int)))))]
 refine st 2 a6 (nx ?_)
 refine cd h (fun h => ?_) fun h => ?_
 refine so ?_
 let a7 : St := a6.p [(4, (vI (-1)))]
 refine st 1 a7 (nx (ri (tr ?_)))
 injection h with h; subst h
 exact ret1_step (v := (vI (-1))) (by kernel_rfl) (by kernel_rfl) (by kernel_rfl)
 refine ki (xi (so ?_))
 let a8 : St := a6.p [(20, (vI (IntKind.wrap .i64 (y1 - (p0.table.length : Int))))), (19, (.d (.sl 1 (p0.rows.map (cSl 10 cGExpr))))), (18, (.ptr 2 8))]
 refine st 3 a8 (cs h (OK_wSzExprSS p0.rows (IntKind.wrap .i64 (y1 - (p0.table.length : Int)))) fun y2 h => ?_)
 let a9 : St := a8.p [(1, (vI y2)), (21, (vI y2))]
 refine st 1 a9 (nx (si (so ?_)))
 let a10 : St := a9.p [(23, (vB (decide (y2 < 0)))), (22, (vI y2))]
 refine st 2 a10 (nx ?_)
 refine cd h (fun h => ?_) fun h => ?_
 refine so ?_
 let a11 : St := a10.p [(4, (vI (-1)))]
 refine st 1 a11 (nx (ri (tr ?_)))
 injection h with h; subst h
 exact ret1_step (v := (vI (-1))) (by kernel_rfl) (by kernel_rfl) (by kernel_rfl)
 refine ki (xi (so ?_))
 let a12 : St := a10.p [(26, (vI y2)), (25, (.d (.sl 1 (p0.cols.map cStr)))), (24, (.ptr 2 9))]
 refine st 3 a12 (cs h (OK_wSzStringS p0.cols y2) fun y3 h => ?_)
 let a13 : St := a12.p [(1, (vI y3)), (27, (vI y3))]
 refine st 1 a13 (nx (si (so ?_)))
 let a14 : St := a13.p [(29, (vB (decide (y3 < 0)))), (28, (vI y3))]
 refine st 2 a14 (nx ?_)
 refine cd h (fun h => ?_) fun h => ?_
 refine so ?_
 let a15 : St := a14.p [(4, (vI (-1)))]
 refine st 1 a15 (nx (ri (tr ?_)))
 injection h with h; subst h
 exact ret1_step (v := (vI (-1))) (by kernel_rfl) (by kernel_rfl) (by kernel_rfl)
 refine ki (xi (so ?_))
 let a16 : St := a14.p [(32, (vI y3)), (31, (.d (.sl 10 (p0.sets.map cGExpr)))), (30, (.ptr 2 10))]
 refine st 3 a16 (cs h (OK_wSzExprS p0.sets y3) fun y4 h => ?_)
 let a17 : St := a16.p [(1, (vI y4)), (33, (vI y4))]
 refine st 1 a17 (nx (si (so ?_)))
 let a18 : St := a17.p [(35, (vB (decide (y4 < 0)))), (34, (vI y4))]
 refine st 2 a18 (nx ?_)
 refine cd h (fun h => ?_) fun h => ?_
 refine so ?_
 let a19 : St := a18.p [(4, (vI (-1)))]
 refine st 1 a19 (nx (ri (tr ?_)))
 injection h with h; subst h
 exact ret1_step (v := (vI (-1))) (by kernel_rfl) (by kernel_rfl) (by kernel_rfl)
 refine ki (xi (so ?_))
 let a20 : St := a18.p [(38, (vI y4)), (37, (.d (.sl 10 (p0.where_.map cGExpr)))), (36, (.ptr 2 11))]
 refine st 3 a20 (cs h (OK_wSzExprS p0.where_ y4) fun y5 h => ?_)
 let a21 : St := a20.p [(1, (vI y5)), (39, (vI y5))]
 refine st 1 a21 (nx (si (so ?_)))
 let a22 : St := a21.p [(41, (vB (decide (y5 < 0)))), (40, (vI y5))]
 refine st 2 a22 (nx ?_)
 refine cd h (fun h => ?_) fun h => ?_
 refine so ?_
 let a23 : St := a22.p [(4, (vI (-1)))]
 refine st 1 a23 (nx (ri (tr ?_)))
 injection h with h; subst h
 exact ret1_step (v := (vI (-1))) (by kernel_rfl) (by kernel_rfl) (by kernel_rfl)
 refine ki (xi (so ?_))
 let a24 : St := a22.p [(4, (vI y5)), (42, (vI y5))]
 refine st 2 a24 (nx (ri ?_))
 injection h with h; subst h
 exact ret1_step (v := (vI y5)) (by kernel_rfl) (by kernel_rfl) (by kernel_rfl)
theorem OK_wToValue (p0 : GValue) : FOk Try.prog 73 [(vGValue p0)] (fun y => (vGValue y)) (wToValue p0) := by
 intro r h
 rw [wToValue] at h
 refine acalls_of_fn trwToValue (Nat.le_of_ble_eq_true rfl) (by simp) ?_
 show avc Try.prog acwToValue (qwToValue _) ⟨[(0, (vGValue p0))], []⟩
 delta acwToValue
 refine so ?_
 let a0 : St := ⟨[(2, (.ptr 2 0)), (1, (.ptr 1 0)), (0, (vGValue p0))], [(2, [(vI 0), (vI 0), (vS [])]), (1, bGValue p0)]⟩
 refine st 2 a0 (nx (so ?_))
 let a1 : St := ⟨(3, (.ptr 3 0)) :: a0.env, [(3, [(vI 0), (vI 0), (vS [])]), (2, [(vI 0), (vI 0), (vS [])]), (1, bGValue p0)]⟩
 refine st 1 a1 (nx (so ?_))
 let a2 : St := ⟨(6, (.ptr 3 0)) :: (5, (vI p0.kind)) :: (4, (.ptr 1 0)) :: a1.env, [(3, [(vI p0.kind), (vI 0), (vS [])]), (2, [(vI 0), (vI 0), (vS [])]), (1, bGValue p0)]⟩
 refine st 4 a2 (nx (so ?_))
 let a3 : St := ⟨(9, (.ptr 3 1)) :: (8, (vI p0.num)) :: (7, (.ptr 1 1)) :: a2.env, [(3, [(vI p0.kind), (vI p0.num), (vS [])]), (2, [(vI 0), (vI 0), (vS [])]), (1, bGValue p0)]⟩
 refine st 4 a3 (nx (so ?_))
 let a4 : St := ⟨(12, (.ptr 3 2)) :: (11, (vS p0.text)) :: (10, (.ptr 1 2)) :: a3.env, [(3, [(vI p0.kind), (vI p0.num), (vS p0.text)]), (2, [(vI 0), (vI 0), (vS [])]), (1, bGValue p0)]⟩
 refine st 4 a4 (nx (so ?_))
 let a5 : St := ⟨(13, (vGValue p0)) :: a4.env, [(3, [(vI p0.kind), (vI p0.num), (vS p0.text)]), (2, bGValue p0), (1, bGValue p0)]⟩
 refine st 2 a5 (nx (ri ?_))
 injection h with h; subst h
 exact ret1_step (v := (vGValue p0)) (by kernel_rfl) (by kernel_rfl) (by kernel_rfl)
theorem OKs_wToSource : (∀ (p0 : GSource) (r : GSource), wToSource p0 = some r → ACalls Try.prog 121 [(vGSource p0)] [] fun x _ => x = (fun y => (vGSource y)) r) ∧ (∀ (p0 : (List GExpr)) (r : (List GExpr)), wToExprS p0 = some r → ACalls Try.prog 63 [(.d (.sl 10 (p0.map cGExpr)))] [] fun x _ => x = (fun y => (.d (.sl 10 (y.map cGExpr)))) r) ∧ (∀ (p0 : (List GExpr)) (x4 : Int) (b7_0 : (List GExpr)) (r : (List GExpr)), wToExprS_L0 p0 x4 b7_0 = some r → avc Try.prog acwToExprS_L0 (qwToExprS_1 r) (stwToExprS_L0 p0 x4 b7_0)) ∧ (∀ (p0 : GExpr) (r : GExpr), wToExpr p0 = some r → ACalls Try.prog 21 [(vGExpr p0)] [] fun x _ => x = (fun y => (vGExpr y)) r) ∧ (∀ (p0 : (List GQuery)) (r : (List GQuery)), wToQueryS p0 = some r → ACalls Try.prog 74 [(.d (.sl 6 (p0.map cGQuery)))] [] fun x _ => x = (fun y => (.d (.sl 6 (y.map cGQuery)))) r) ∧ (∀ (p0 : (List GQuery)) (x4 : Int) (b7_0 : (List GQuery)) (r : (List GQuery)), wToQueryS_L0 p0 x4 b7_0 = some r → avc Try.prog acwToQueryS_L0 (qwToQueryS_1 r) (stwToQueryS_L0 p0 x4 b7_0)) ∧ (∀ (p0 : GQuery) (r : GQuery), wToQuery p0 = some r → ACalls Try.prog 16 [(vGQuery p0)] [] fun x _ => x = (fun y => (vGQuery y)) r) ∧ (∀ (p0 : (List GSortKey)) (r : (List GSortKey)), wToSortKeyS p0 = some r → ACalls Try.prog 64 [(.d (.sl 11 (p0.map cGSortKey)))] [] fun x _ => x = (fun y => (.d (.sl 11 (y.map cGSortKey)))) r) ∧ (∀ (p0 : (List GSortKey)) (x4 : Int) (b7_0 : (List GSortKey)) (r : (List GSortKey)), wToSortKeyS_L0 p0 x4 b7_0 = some r → avc Try.prog acwToSortKeyS_L0 (qwToSortKeyS_1 r) (stwToSortKeyS_L0 p0 x4 b7_0)) ∧ (∀ (p0 : GSortKey) (r : GSortKey), wToSortKey p0 = some r → ACalls Try.prog 122 [(vGSortKey p0)] [] fun x _ => x = (fun y => (vGSortKey y)) r) ∧ (∀ (p0 : (List GSource)) (r : (List GSource)), wToSourceS p0 = some r → ACalls Try.prog 62 [(.d (.sl 3 (p0.map cGSource)))] [] fun x _ => x = (fun y => (.d (.sl 3 (y.map cGSource)))) r) ∧ (∀ (p0 : (List GSource)) (x4 : Int) (b7_0 : (List GSource)) (r : (List GSource)), wToSourceS_L0 p0 x4 b7_0 = some r → avc Try.prog acwToSourceS_L0 (qwToSourceS_1 r) (stwToSourceS_L0 p0 x4 b7_0)) ∧ (∀ (p0 : (List GItem)) (r : (List GItem)), wToItemS p0 = some r → ACalls Try.prog 61 [(.d (.sl 13 (p0.map cGItem)))] [] fun x _ => x = (fun y => (.d (.sl 13 (y.map cGItem)))) r) ∧ (∀ (p0 : (List GItem)) (x4 : Int) (b7_0 : (List GItem)) (r : (List GItem)), wToItemS_L0 p0 x4 b7_0 = some r → avc Try.prog acwToItemS_L0 (qwToItemS_1 r) (stwToItemS_L0 p0 x4 b7_0)) ∧ (∀ (p0 : GItem) (r : GItem), wToItem p0 = some r → ACalls Try.prog 120 [(vGItem p0)] [] fun x _ => x = (fun y => (vGItem y)) r) := by
 refine wToSource.mutual_partial_correctness (fun p0 r => ACalls Try.prog 121 [(vGSource p0)] [] fun x _ => x = (fun y => (vGSource y)) r) (fun p0 r => ACalls Try.prog 63 [(.d (.sl 10 (p0.map cGExpr)))] [] fun x _ => x = (fun y => (.d (.sl 10 (y.map cGExpr)))) r) (fun p0 x4 b7_0 r => avc Try.prog acwToExprS_L0 (qwToExprS_1 r) (stwToExprS_L0 p0 x4 b7_0)) (fun p0 r => ACalls Try.prog 21 [(vGExpr p0)] [] fun x _ => x = (fun y => (vGExpr y)) r) (fun p0 r => ACalls Try.prog 74 [(.d (.sl 6 (p0.map cGQuery)))] [] fun x _ => x = (fun y => (.d (.sl 6 (y.map cGQuery)))) r) (fun p0 x4 b7_0 r => avc Try.prog acwToQueryS_L0 (qwToQueryS_1 r) (stwToQueryS_L0 p0 x4 b7_0)) (fun p0 r => ACalls Try.prog 16 [(vGQuery p0)] [] fun x _ => x = (fun y => (vGQuery y)) r) (fun p0 r => ACalls Try.prog 64 [(.d (.sl 11 (p0.map cGSortKey)))] [] fun x _ => x = (fun y => (.d (.sl 11 (y.map cGSortKey)))) r) (fun p0 x4 b7_0 r => avc Try.prog acwToSortKeyS_L0 (qwToSortKeyS_1 r) (stwToSortKeyS_L0 p0 x4 b7_0)) (fun p0 r => ACalls Try.prog 122 [(vGSortKey p0)] [] fun x _ => x = (fun y => (vGSortKey y)) r) (fun p0 r => ACalls Try.prog 62 [(.d (.sl 3 (p0.map cGSource)))] [] fun x _ => x = (fun y => (.d (.sl 3 (y.map cGSource)))) r) (fun p0 x4 b7_0 r => avc Try.prog acwToSourceS_L0 (qwToSourceS_1 r) (stwToSourceS_L0 p0 x4 b7_0)) (fun p0 r => ACalls Try.prog 61 [(.d (.sl 13 (p0.map cGItem)))] [] fun x _ => x = (fun y => (.d (.sl 13 (y.map cGItem)))) r) (fun p0 x4 b7_0 r => avc Try.prog acwToItemS_L0 (qwToItemS_1 r) (stwToItemS_L0 p0 x4 b7_0)) (fun p0 r => ACalls Try.prog 120 [(vGItem p0)] [] fun x _ => x = (fun y => (vGItem y)) r) ?_ ?_ ?_ ?_ ?_ ?_ ?_ ?_ ?_ ?_ ?_ ?_ ?_ ?_ ?_
 · intro F_wToExprS OK_wToExprS p0 r h
   refine acalls_of_fn trwToSource (Nat.le_of_ble_eq_true rfl) (by simp) ?_
   show avc Try.prog acwToSource (qwToSource _) ⟨[(0, (vGSource p0))], []⟩
   delta acwToSource
   refine so ?_
   let a0 : St := ⟨[(2, (.ptr 2 0)), (1, (.ptr 1 0)), (0, (vGSource p0))], [(2, [(vS []), (vS []), (.nil 10)]), (1, bGSource p0)]⟩
   refine st 2 a0 (nx (so ?_))
   let a1 : St := ⟨(3, (.ptr 3 0)) :: a0.env, [(3, [(vS []), (vS []), (.nil 10)]), (2, [(vS []), (vS []), (.nil 10)]), (1, bGSource p0)]⟩
   refine st 1 a1 (nx (so ?_))
   let a2 : St := ⟨(6, (.ptr 3 0)) :: (5, (vS p0.table)) :: (4, (.ptr 1 0)) :: a1.env, [(3, [(vS p0.table), (vS []), (.nil 10)]), (2, [(vS []), (vS []), (.nil 10)]), (1, bGSource p0)]⟩
   refine st 4 a2 (nx (so ?_))
   let a3 : St := ⟨(9, (.ptr 3 1)) :: (8, (vS p0.as_)) :: (7, (.ptr 1 1)) :: a2.env, [(3, [(vS p0.table), (vS p0.as_), (.nil 10)]), (2, [(vS []), (vS []), (.nil 10)]), (1, bGSource p0)]⟩
   refine st 4 a3 (nx (so ?_))
   let a4 : St := a3.p [(11, (.d (.sl 10 (p0.on_.map cGExpr)))), (10, (.ptr 1 2))]
   refine st 2 a4 (cs h (OK_wToExprS p0.on_) fun y1 h => ?_)
   let a5 : St := ⟨(13, (.ptr 3 2)) :: (12, (.d (.sl 10 (y1.map cGExpr)))) :: a4.env, [(3, [(vS p0.table), (vS p0.as_), (.d (.sl 10 (y1.map cGExpr)))]), (2, [(vS []), (vS []), (.nil 10)]), (1, bGSource p0)]⟩
   refine st 2 a5 (nx (so ?_))
   let a6 : St := ⟨(14, (vGSource (GSource.mk p0.table p0.as_ y1))) :: a5.env, [(3, [(vS p0.table), (vS p0.as_), (.d (.sl 10 (y1.map cGExpr)))]), (2, bGSource (GSource.mk p0.table p0.as_ y1)), (1, bGSource p0)]⟩
   refine st 2 a6 (nx (ri ?_))
   injection h with h; subst h
   exact ret1_step (v := (vGSource (GSource.mk p0.table p0.as_ y1))) (by kernel_rfl) (by kernel_rfl) (by kernel_rfl)
 · intro F_wToExprS_L0 OK_wToExprS_L0 p0 r h
   refine acalls_of_fn trwToExprS (Nat.le_of_ble_eq_true rfl) (by simp) ?_
   show avc Try.prog acwToExprS (qwToExprS _) ⟨[(0, (.d (.sl 10 (p0.map cGExpr))))], []⟩
   delta acwToExprS
   refine so ?_
   let a0 : St := ⟨[(2, (.nil 10)), (0, (.d (.sl 10 (p0.map cGExpr))))], []⟩
   refine st 1 a0 (nx (so ?_))
   let a1 : St := a0.p [(5, (.d (.sl 10 (p0.map cGExpr))))]
   refine st 1 a1 (ps (vI (p0.length : Int)) (vop_len (sz := 10) (l := p0) (f := cGExpr) (by kernel_rfl) (by kernel_rfl)) ?_)
   refine mks_step (k := .i64) (k' := .i64) (z := ((GExpr.mk 0 0 false (GValue.mk 0 0 []) [] [] ([] : List GExpr) ([] : List GQuery)) : GExpr)) (f := cGExpr) (S' := fun y => ⟨(7, (.msl 7 10 0 y.length y.length)) :: (6, (vI (p0.length : Int))) :: a1.env, [(7, rowsV (y.map cGExpr))]⟩) h (by kernel_rfl) (by kernel_rfl) (by kernel_rfl) (by kernel_rfl) (by kernel_rfl) (fun y => by kernel_rfl) ?_
   clear h; intro y1 h
   let a2 : St := ⟨(3, (.msl 7 10 0 y1.length y1.length)) :: (7, (.msl 7 10 0 y1.length y1.length)) :: (6, (vI (p0.length : Int))) :: a1.env, [(7, rowsV (y1.map cGExpr))]⟩
   refine st 1 a2 (nx (si (so ?_)))
   let a3 : St := a2.p [(4, (vI 0))]
   exact st 1 a3 (nx (bi (loop_go (s' := stwToExprS_L0 p0 0 y1) (wr [] (es (es (es er_nil))) (br_rows (by kernel_rfl) br_nil)) (OK_wToExprS_L0 p0 0 y1 _ h))))
 · intro F_wToExprS_L0 F_wToExpr OK_wToExprS_L0 OK_wToExpr p0 x4 b7_0 r h
   delta acwToExprS_L0
   refine loop_unroll (si (so ?_))
   let a4 : St := (stwToExprS_L0 p0 x4 b7_0).p [(9, (.d (.sl 10 (p0.map cGExpr)))), (8, (vI x4))]
   refine st 2 a4 (ps (vI (p0.length : Int)) (vop_len (sz := 10) (l := p0) (f := cGExpr) (by kernel_rfl) (by kernel_rfl)) ?_)
   let a5 : St := a4.p [(11, (vB (decide (x4 < (p0.length : Int))))), (10, (vI (p0.length : Int)))]
   refine st 1 a5 (nx ?_)
   refine cd h (fun h => ?_) fun h => ?_
   refine ki (xi (si (bi (oi ?_))))
   let a6 : St := a5.p [(17, (vI x4)), (16, (.d (.sl 10 (p0.map cGExpr)))), (15, (vI x4)), (14, (.msl 7 10 0 b7_0.length b7_0.length))]
   refine st 4 a6 (vs (fun (y : GExpr) => (.rp (oGExpr y))) h (fun y hy => vop_ia (l := p0) (f := cGExpr) (g := oGExpr) (k := .i64) hy cGExpr_eq (by kernel_rfl) (by kernel_rfl) (by kernel_rfl)) fun y2 h => ?_)
   let a7 : St := a6.p [(19, (vGExpr y2)), (18, (.rp (oGExpr y2)))]
   refine st 1 a7 (cs h (OK_wToExpr y2) fun y3 h => (vs (fun (y : GExpr) => (.ptr 7 ((0 + (x4).toNat) * 10))) h (fun y hy => vop_iaE (l := b7_0) (k := .i64) hy (by kernel_rfl) (by kernel_rfl) (by kernel_rfl)) fun y4 h => ?_))
   refine sti_step (b := 7) (i := x4) (l := b7_0) (v := y3) (f := cGExpr) (u := (vGExpr y3)) (T := fun y m => ⟨[(21, (.ptr 7 ((0 + (x4).toNat) * 10))), (20, (vGExpr y3)), (19, (vGExpr y2)), (18, (.rp (oGExpr y2))), (17, (vI x4)), (16, (.d (.sl 10 (p0.map cGExpr)))), (15, (vI x4)), (14, (.msl 7 10 0 m m)), (11, (vB (decide (x4 < (p0.length : Int))))), (10, (vI (p0.length : Int))), (9, (.d (.sl 10 (p0.map cGExpr)))), (8, (vI x4)), (0, (.d (.sl 10 (p0.map cGExpr)))), (3, (.msl 7 10 0 m m)), (4, (vI x4))], [(7, rowsV (y.map cGExpr))]⟩) h (by kernel_rfl) (by kernel_rfl) (by kernel_rfl) (congrArg (List.map V.d) (cGExpr_eq y3).symm) (fun y => (congrArg List.length (cGExpr_eq y)).trans rfl) (by kernel_rfl) (fun y => by kernel_rfl) ?_
   clear h; intro y5 h
   refine ni (bn (xi (oi ?_)))
   let a8 : St := ⟨[(4, (vI (IntKind.wrap .i64 (x4 + 1)))), (13, (vI (IntKind.wrap .i64 (x4 + 1)))), (12, (vI x4)), (21, (.ptr 7 ((0 + (x4).toNat) * 10))), (20, (vGExpr y3)), (19, (vGExpr y2)), (18, (.rp (oGExpr y2))), (17, (vI x4)), (16, (.d (.sl 10 (p0.map cGExpr)))), (15, (vI x4)), (14, (.msl 7 10 0 y5.length y5.length)), (11, (vB (decide (x4 < (p0.length : Int))))), (10, (vI (p0.length : Int))), (9, (.d (.sl 10 (p0.map cGExpr)))), (8, (vI x4)), (0, (.d (.sl 10 (p0.map cGExpr)))), (3, (.msl 7 10 0 y5.length y5.length)), (4, (vI x4))], [(7, rowsV (y5.map cGExpr))]⟩
   exact st 3 a8 (ni (loop_back (s' := stwToExprS_L0 p0 (IntKind.wrap .i64 (x4 + 1)) y5) (wr [] (es (es (es er_nil))) (br_rows (by kernel_rfl) br_nil)) (OK_wToExprS_L0 p0 (IntKind.wrap .i64 (x4 + 1)) y5 _ h)))
   refine ei (te (te (bh (xi (so ?_)))))
   let a9 : St := a5.p [(2, (.msl 7 10 0 b7_0.length b7_0.length)), (22, (.msl 7 10 0 b7_0.length b7_0.length))]
   refine st 2 a9 (nx (ret_frz (n := 7) (sz := 10) (l := b7_0) (f := cGExpr) (s' := ⟨[(2, (.d (.sl 10 (b7_0.map cGExpr))))], []⟩) (by decide) (fun y => (congrArg List.length (cGExpr_eq y)).trans rfl) (by kernel_rfl) (⟨.inr ⟨b7_0.length, b7_0.length, by kernel_rfl, lms b7_0 _, by kernel_rfl⟩, trivial⟩) (trivial) (ri ?_)))
   injection h with h; subst h
   exact ret1_step (v := (.d (.sl 10 (b7_0.map cGExpr)))) (by kernel_rfl) (by kernel_rfl) (by kernel_rfl)
 · intro F_wToExprS F_wToQueryS OK_wToExprS OK_wToQueryS p0 r h
   refine acalls_of_fn trwToExpr (Nat.le_of_ble_eq_true rfl) (by simp) ?_
   show avc Try.prog acwToExpr (qwToExpr _) ⟨[(0, (vGExpr p0))], []⟩
   delta acwToExpr
   refine so ?_
   let a0 : St := ⟨[(2, (.ptr 2 0)), (1, (.ptr 1 0)), (0, (vGExpr p0))], [(2, [(vI 0), (vI 0), (vB false), (vI 0), (vI 0), (vS []), (vS []), (vS []), (.nil 10), (.nil 6)]), (1, bGExpr p0)]⟩
   refine st 2 a0 (nx (so ?_))
   let a1 : St := ⟨(3, (.ptr 3 0)) :: a0.env, [(3, [(vI 0), (vI 0), (vB false), (vI 0), (vI 0), (vS []), (vS []), (vS []), (.nil 10), (.nil 6)]), (2, [(vI 0), (vI 0), (vB false), (vI 0), (vI 0), (vS []), (vS []), (vS []), (.nil 10), (.nil 6)]), (1, bGExpr p0)]⟩
   refine st 1 a1 (nx (so ?_))
   let a2 : St := ⟨(6, (.ptr 3 0)) :: (5, (vI p0.kind)) :: (4, (.ptr 1 0)) :: a1.env, [(3, [(vI p0.kind), (vI 0), (vB false), (vI 0), (vI 0), (vS []), (vS []), (vS []), (.nil 10), (.nil 6)]), (2, [(vI 0), (vI 0), (vB false), (vI 0), (vI 0), (vS []), (vS []), (vS []), (.nil 10), (.nil 6)]), (1, bGExpr p0)]⟩
   refine st 4 a2 (nx (so ?_))
   let a3 : St := ⟨(9, (.ptr 3 1)) :: (8, (vI p0.op)) :: (7, (.ptr 1 1)) :: a2.env, [(3, [(vI p0.kind), (vI p0.op), (vB false), (vI 0), (vI 0), (vS []), (vS []), (vS []), (.nil 10), (.nil 6)]), (2, [(vI 0), (vI 0), (vB false), (vI 0), (vI 0), (vS []), (vS []), (vS []), (.nil 10), (.nil 6)]), (1, bGExpr p0)]⟩
   refine st 4 a3 (nx (so ?_))
   let a4 : St := ⟨(12, (.ptr 3 2)) :: (11, (vB p0.not_)) :: (10, (.ptr 1 2)) :: a3.env, [(3, [(vI p0.kind), (vI p0.op), (vB p0.not_), (vI 0), (vI 0), (vS []), (vS []), (vS []), (.nil 10), (.nil 6)]), (2, [(vI 0), (vI 0), (vB false), (vI 0), (vI 0), (vS []), (vS []), (vS []), (.nil 10), (.nil 6)]), (1, bGExpr p0)]⟩
   refine st 4 a4 (nx (so ?_))
   let a5 : St := a4.p [(14, (vGValue p0.value)), (13, (.ptr 1 3))]
   refine st 2 a5 (cs h (OK_wToValue p0.value) fun y1 h => ?_)
   let a6 : St := ⟨(16, (.ptr 3 3)) :: (15, (vGValue y1)) :: a5.env, [(3, [(vI p0.kind), (vI p0.op), (vB p0.not_), (vI y1.kind), (vI y1.num), (vS y1.text), (vS []), (vS []), (.nil 10), (.nil 6)]), (2, [(vI 0), (vI 0), (vB false), (vI 0), (vI 0), (vS []), (vS []), (vS []), (.nil 10), (.nil 6)]), (1, bGExpr p0)]⟩
   refine st 2 a6 (nx (so ?_))
   let a7 : St := ⟨(19, (.ptr 3 6)) :: (18, (vS p0.qual)) :: (17, (.ptr 1 6)) :: a6.env, [(3, [(vI p0.kind), (vI p0.op), (vB p0.not_), (vI y1.kind), (vI y1.num), (vS y1.text), (vS p0.qual), (vS []), (.nil 10), (.nil 6)]), (2, [(vI 0), (vI 0), (vB false), (vI 0), (vI 0), (vS []), (vS []), (vS []), (.nil 10), (.nil 6)]), (1, bGExpr p0)]⟩
   refine st 4 a7 (nx (so ?_))
   let a8 : St := ⟨(22, (.ptr 3 7)) :: (21, (vS p0.name)) :: (20, (.ptr 1 7)) :: a7.env, [(3, [(vI p0.kind), (vI p0.op), (vB p0.not_), (vI y1.kind), (vI y1.num), (vS y1.text), (vS p0.qual), (vS p0.name), (.nil 10), (.nil 6)]), (2, [(vI 0), (vI 0), (vB false), (vI 0), (vI 0), (vS []), (vS []), (vS []), (.nil 10), (.nil 6)]), (1, bGExpr p0)]⟩
   refine st 4 a8 (nx (so ?_))
   let a9 : St := a8.p [(24, (.d (.sl 10 (p0.kids.map cGExpr)))), (23, (.ptr 1 8))]
   refine st 2 a9 (cs h (OK_wToExprS p0.kids) fun y2 h => ?_)
   let a10 : St := ⟨(26, (.ptr 3 8)) :: (25, (.d (.sl 10 (y2.map cGExpr)))) :: a9.env, [(3, [(vI p0.kind), (vI p0.op), (vB p0.not_), (vI y1.kind), (vI y1.num), (vS y1.text), (vS p0.qual), (vS p0.name), (.d (.sl 10 (y2.map cGExpr))), (.nil 6)]), (2, [(vI 0), (vI 0), (vB false), (vI 0), (vI 0), (vS []), (vS []), (vS []), (.nil 10), (.nil 6)]), (1, bGExpr p0)]⟩
   refine st 2 a10 (nx (so ?_))
   let a11 : St := a10.p [(28, (.d (.sl 6 (p0.sub.map cGQuery)))), (27, (.ptr 1 9))]
   refine st 2 a11 (cs h (OK_wToQueryS p0.sub) fun y3 h => ?_)
   let a12 : St := ⟨(30, (.ptr 3 9)) :: (29, (.d (.sl 6 (y3.map cGQuery)))) :: a11.env, [(3, [(vI p0.kind), (vI p0.op), (vB p0.not_), (vI y1.kind), (vI y1.num), (vS y1.text), (vS p0.qual), (vS p0.name), (.d (.sl 10 (y2.map cGExpr))), (.d (.sl 6 (y3.map cGQuery)))]), (2, [(vI 0), (vI 0), (vB false), (vI 0), (vI 0), (vS []), (vS []), (vS []), (.nil 10), (.nil 6)]), (1, bGExpr p0)]⟩
   refine st 2 a12 (nx (so ?_))
   let a13 : St := ⟨(31, (vGExpr (GExpr.mk p0.kind p0.op p0.not_ y1 p0.qual p0.name y2 y3))) :: a12.env, [(3, [(vI p0.kind), (vI p0.op), (vB p0.not_), (vI y1.kind), (vI y1.num), (vS y1.text), (vS p0.qual), (vS p0.name), (.d (.sl 10 (y2.map cGExpr))), (.d (.sl 6 (y3.map cGQuery)))]), (2, bGExpr (GExpr.mk p0.kind p0.op p0.not_ y1 p0.qual p0.name y2 y3)), (1, bGExpr p0)]⟩
   refine st 2 a13 (nx (ri ?_))
   injection h with h; subst h
   exact ret1_step (v := (vGExpr (GExpr.mk p0.kind p0.op p0.not_ y1 p0.qual p0.name y2 y3))) (by kernel_rfl) (by kernel_rfl) (by kernel_rfl)
 · intro F_wToQueryS_L0 OK_wToQueryS_L0 p0 r h
   refine acalls_of_fn trwToQueryS (Nat.le_of_ble_eq_true rfl) (by simp) ?_
   show avc Try.prog acwToQueryS (qwToQueryS _) ⟨[(0, (.d (.sl 6 (p0.map cGQuery))))], []⟩
   delta acwToQueryS
   refine so ?_
   let a0 : St := ⟨[(2, (.nil 6)), (0, (.d (.sl 6 (p0.map cGQuery))))], []⟩
   refine st 1 a0 (nx (so ?_))
   let a1 : St := a0.p [(5, (.d (.sl 6 (p0.map cGQuery))))]
   refine st 1 a1 (ps (vI (p0.length : Int)) (vop_len (sz := 6) (l := p0) (f := cGQuery) (by kernel_rfl) (by kernel_rfl)) ?_)
   refine mks_step (k := .i64) (k' := .i64) (z := ((GQuery.mk false ([] : List GItem) ([] : List GSource) ([] : List GExpr) ([] : List GSortKey) 0) : GQuery)) (f := cGQuery) (S' := fun y => ⟨(7, (.msl 7 6 0 y.length y.length)) :: (6, (vI (p0.length : Int))) :: a1.env, [(7, rowsV (y.map cGQuery))]⟩) h (by kernel_rfl) (by kernel_rfl) (by kernel_rfl) (by kernel_rfl) (by kernel_rfl) (fun y => by kernel_rfl) ?_
   clear h; intro y1 h
   let a2 : St := ⟨(3, (.msl 7 6 0 y1.length y1.length)) :: (7, (.msl 7 6 0 y1.length y1.length)) :: (6, (vI (p0.length : Int))) :: a1.env, [(7, rowsV (y1.map cGQuery))]⟩
   refine st 1 a2 (nx (si (so ?_)))
   let a3 : St := a2.p [(4, (vI 0))]
   exact st 1 a3 (nx (bi (loop_go (s' := stwToQueryS_L0 p0 0 y1) (wr [] (es (es (es er_nil))) (br_rows (by kernel_rfl) br_nil)) (OK_wToQueryS_L0 p0 0 y1 _ h))))
 · intro F_wToQueryS_L0 F_wToQuery OK_wToQueryS_L0 OK_wToQuery p0 x4 b7_0 r h
   delta acwToQueryS_L0
   refine loop_unroll (si (so ?_))
   let a4 : St := (stwToQueryS_L0 p0 x4 b7_0).p [(9, (.d (.sl 6 (p0.map cGQuery)))), (8, (vI x4))]
   refine st 2 a4 (ps (vI (p0.length : Int)) (vop_len (sz := 6) (l := p0) (f := cGQuery) (by kernel_rfl) (by kernel_rfl)) ?_)
   let a5 : St := a4.p [(11, (vB (decide (x4 < (p0.length : Int))))), (10, (vI (p0.length : Int)))]
   refine st 1 a5 (nx ?_)
   refine cd h (fun h => ?_) fun h => ?_
   refine ki (xi (si (bi (oi ?_))))
   let a6 : St := a5.p [(17, (vI x4)), (16, (.d (.sl 6 (p0.map cGQuery)))), (15, (vI x4)), (14, (.msl 7 6 0 b7_0.length b7_0.length))]
   refine st 4 a6 (vs (fun (y : GQuery) => (.rp (oGQuery y))) h (fun y hy => vop_ia (l := p0) (f := cGQuery) (g := oGQuery) (k := .i64) hy cGQuery_eq (by kernel_rfl) (by kernel_rfl) (by kernel_rfl)) fun y2 h => ?_)
   let a7 : St := a6.p [(19, (vGQuery y2)), (18, (.rp (oGQuery y2)))]
   refine st 1 a7 (cs h (OK_wToQuery y2) fun y3 h => (vs (fun (y : GQuery) => (.ptr 7 ((0 + (x4).toNat) * 6))) h (fun y hy => vop_iaE (l := b7_0) (k := .i64) hy (by kernel_rfl) (by kernel_rfl) (by kernel_rfl)) fun y4 h => ?_))
   refine sti_step (b := 7) (i := x4) (l := b7_0) (v := y3) (f := cGQuery) (u := (vGQuery y3)) (T := fun y m => ⟨[(21, (.ptr 7 ((0 + (x4).toNat) * 6))), (20, (vGQuery y3)), (19, (vGQuery y2)), (18, (.rp (oGQuery y2))), (17, (vI x4)), (16, (.d (.sl 6 (p0.map cGQuery)))), (15, (vI x4)), (14, (.msl 7 6 0 m m)), (11, (vB (decide (x4 < (p0.length : Int))))), (10, (vI (p0.length : Int))), (9, (.d (.sl 6 (p0.map cGQuery)))), (8, (vI x4)), (0, (.d (.sl 6 (p0.map cGQuery)))), (3, (.msl 7 6 0 m m)), (4, (vI x4))], [(7, rowsV (y.map cGQuery))]⟩) h (by kernel_rfl) (by kernel_rfl) (by kernel_rfl) (congrArg (List.map V.d) (cGQuery_eq y3).symm) (fun y => (congrArg List.length (cGQuery_eq y)).trans rfl) (by kernel_rfl) (fun y => by kernel_rfl) ?_
   clear h; intro y5 h
   refine ni (bn (xi (oi ?_)))
   let a8 : St := ⟨[(4, (vI (IntKind.wrap .i64 (x4 + 1)))), (13, (vI (IntKind.wrap .i64 (x4 + 1)))), (12, (vI x4)), (21, (.ptr 7 ((0 + (x4).toNat) * 6))), (20, (vGQuery y3)), (19, (vGQuery y2)), (18, (.rp (oGQuery y2))), (17, (vI x4)), (16, (.d (.sl 6 (p0.map cGQuery)))), (15, (vI x4)), (14, (.msl 7 6 0 y5.length y5.length)), (11, (vB (decide (x4 < (p0.length : Int))))), (10, (vI (p0.length : Int))), (9, (.d (.sl 6 (p0.map cGQuery)))), (8, (vI x4)), (0, (.d (.sl 6 (p0.map cGQuery)))), (3, (.msl 7 6 0 y5.length y5.length)), (4, (vI x4))], [(7, rowsV (y5.map cGQuery))]⟩
   exact st 3 a8 (ni (loop_back (s' := stwToQueryS_L0 p0 (IntKind.wrap .i64 (x4 + 1)) y5) (wr [] (es (es (es er_nil))) (br_rows (by kernel_rfl) br_nil)) (OK_wToQueryS_L0 p0 (IntKind.wrap .i64 (x4 + 1)) y5 _ h)))
   refine ei (te (te (bh (xi (so ?_)))))
   let a9 : St := a5.p [(2, (.msl 7 6 0 b7_0.length b7_0.length)), (22, (.msl 7 6 0 b7_0.length b7_0.length))]
   refine st 2 a9 (nx (ret_frz (n := 7) (sz := 6) (l := b7_0) (f := cGQuery) (s' := ⟨[(2, (.d (.sl 6 (b7_0.map cGQuery))))], []⟩) (by decide) (fun y => (congrArg List.length (cGQuery_eq y)).trans rfl) (by kernel_rfl) (⟨.inr ⟨b7_0.length, b7_0.length, by kernel_rfl, lms b7_0 _, by kernel_rfl⟩, trivial⟩) (trivial) (ri ?_)))
   injection h with h; subst h
   exact ret1_step (v := (.d (.sl 6 (b7_0.map cGQuery)))) (by kernel_rfl) (by kernel_rfl) (by kernel_rfl)
 · intro F_wToExprS F_wToSortKeyS F_wToSourceS F_wToItemS OK_wToExprS OK_wToSortKeyS OK_wToSourceS OK_wToItemS p0 r h
   refine acalls_of_fn trwToQuery (Nat.le_of_ble_eq_true rfl) (by simp) ?_
   show avc Try.prog acwToQuery (qwToQuery _) ⟨[(0, (vGQuery p0))], []⟩
   delta acwToQuery
   refine so ?_
   let a0 : St := ⟨[(2, (.ptr 2 0)), (1, (.ptr 1 0)), (0, (vGQuery p0))], [(2, [(vB false), (.nil 13), (.nil 3), (.nil 10), (.nil 11), (vI 0)]), (1, bGQuery p0)]⟩
   refine st 2 a0 (nx (so ?_))
   let a1 : St := ⟨(3, (.ptr 3 0)) :: a0.env, [(3, [(vB false), (.nil 13), (.nil 3), (.nil 10), (.nil 11), (vI 0)]), (2, [(vB false), (.nil 13), (.nil 3), (.nil 10), (.nil 11), (vI 0)]), (1, bGQuery p0)]⟩
   refine st 1 a1 (nx (so ?_))
   let a2 : St := ⟨(6, (.ptr 3 0)) :: (5, (vB p0.distinct)) :: (4, (.ptr 1 0)) :: a1.env, [(3, [(vB p0.distinct), (.nil 13), (.nil 3), (.nil 10), (.nil 11), (vI 0)]), (2, [(vB false), (.nil 13), (.nil 3), (.nil 10), (.nil 11), (vI 0)]), (1, bGQuery p0)]⟩
   refine st 4 a2 (nx (so ?_))
   let a3 : St := a2.p [(8, (.d (.sl 13 (p0.items.map cGItem)))), (7, (.ptr 1 1))]
   refine st 2 a3 (cs h (OK_wToItemS p0.items) fun y1 h => ?_)
   let a4 : St := ⟨(10, (.ptr 3 1)) :: (9, (.d (.sl 13 (y1.map cGItem)))) :: a3.env, [(3, [(vB p0.distinct), (.d (.sl 13 (y1.map cGItem))), (.nil 3), (.nil 10), (.nil 11), (vI 0)]), (2, [(vB false), (.nil 13), (.nil 3), (.nil 10), (.nil 11), (vI 0)]), (1, bGQuery p0)]⟩
   refine st 2 a4 (nx (so ?_))
   let a5 : St := a4.p [(12, (.d (.sl 3 (p0.from_.map cGSource)))), (11, (.ptr 1 2))]
   refine st 2 a5 (cs h (OK_wToSourceS p0.from_) fun y2 h => ?_)
   let a6 : St := ⟨(14, (.ptr 3 2)) :: (13, (.d (.sl 3 (y2.map cGSource)))) :: a5.env, [(3, [(vB p0.distinct), (.d (.sl 13 (y1.map cGItem))), (.d (.sl 3 (y2.map cGSource))), (.nil 10), (.nil 11), (vI 0)]), (2, [(vB false), (.nil 13), (.nil 3), (.nil 10), (.nil 11), (vI 0)]), (1, bGQuery p0)]⟩
   refine st 2 a6 (nx (so ?_))
   let a7 : St := a6.p [(16, (.d (.sl 10 (p0.where_.map cGExpr)))), (15, (.ptr 1 3))]
   refine st 2 a7 (cs h (OK_wToExprS p0.where_) fun y3 h => ?_)
   let a8 : St := ⟨(18, (.ptr 3 3)) :: (17, (.d (.sl 10 (y3.map cGExpr)))) :: a7.env, [(3, [(vB p0.distinct), (.d (.sl 13 (y1.map cGItem))), (.d (.sl 3 (y2.map cGSource))), (.d (.sl 10 (y3.map cGExpr))), (.nil 11), (vI 0)]), (2, [(vB false), (.nil 13), (.nil 3), (.nil 10), (.nil 11), (vI 0)]), (1, bGQuery p0)]⟩
   refine st 2 a8 (nx (so ?_))
   let a9 : St := a8.p [(20, (.d (.sl 11 (p0.order.map cGSortKey)))), (19, (.ptr 1 4))]
   refine st 2 a9 (cs h (OK_wToSortKeyS p0.order) fun y4 h => ?_)
   let a10 : St := ⟨(22, (.ptr 3 4)) :: (21, (.d (.sl 11 (y4.map cGSortKey)))) :: a9.env, [(3, [(vB p0.distinct), (.d (.sl 13 (y1.map cGItem))), (.d (.sl 3 (y2.map cGSource))), (.d (.sl 10 (y3.map cGExpr))), (.d (.sl 11 (y4.map cGSortKey))), (vI 0)]), (2, [(vB false), (.nil 13), (.nil 3), (.nil 10), (.nil 11), (vI 0)]), (1, bGQuery p0)]⟩
   refine st 2 a10 (nx (so ?_))
   let a11 : St := ⟨(25, (.ptr 3 5)) :: (24, (vI p0.limit)) :: (23, (.ptr 1 5)) :: a10.env, [(3, [(vB p0.distinct), (.d (.sl 13 (y1.map cGItem))), (.d (.sl 3 (y2.map cGSource))), (.d (.sl 10 (y3.map cGExpr))), (.d (.sl 11 (y4.map cGSortKey))), (vI p0.limit)]), (2, [(vB false), (.nil 13), (.nil 3), (.nil 10), (.nil 11), (vI 0)]), (1, bGQuery p0)]⟩
   refine st 4 a11 (nx (so ?_))
   let a12 : St := ⟨(26, (vGQuery (GQuery.mk p0.distinct y1 y2 y3 y4 p0.limit))) :: a11.env, [(3, [(vB p0.distinct), (.d (.sl 13 (y1.map cGItem))), (.d (.sl 3 (y2.map cGSource))), (.d (.sl 10 (y3.map cGExpr))), (.d (.sl 11 (y4.map cGSortKey))), (vI p0.limit)]), (2, bGQuery (GQuery.mk p0.distinct y1 y2 y3 y4 p0.limit)), (1, bGQuery p0)]⟩
   refine st 2 a12 (nx (ri ?_))
   injection h with h; subst h
   exact ret1_step (v := (vGQuery (GQuery.mk p0.distinct y1 y2 y3 y4 p0.limit))) (by kernel_rfl) (by kernel_rfl) (by kernel_rfl)
 · intro F_wToSortKeyS_L0 OK_wToSortKeyS_L0 p0 r h
   refine acalls_of_fn trwToSortKeyS (Nat.le_of_ble_eq_true rfl) (by simp) ?_
   show avc Try.prog acwToSortKeyS (qwToSortKeyS _) ⟨[(0, (.d (.sl 11 (p0.map cGSortKey))))], []⟩
   delta acwToSortKeyS
   refine so ?_
   let a0 : St := ⟨[(2, (.nil 11)), (0, (.d (.sl 11 (p0.map cGSortKey))))], []⟩
   refine st 1 a0 (nx (so ?_))
   let a1 : St := a0.p [(5, (.d (.sl 11 (p0.map cGSortKey))))]
   refine st 1 a1 (ps (vI (p0.length : Int)) (vop_len (sz := 11) (l := p0) (f := cGSortKey) (by kernel_rfl) (by kernel_rfl)) ?_)
   refine mks_step (k := .i64) (k' := .i64) (z := ((GSortKey.mk (GExpr.mk 0 0 false (GValue.mk 0 0 []) [] [] ([] : List GExpr) ([] : List GQuery)) false) : GSortKey)) (f := cGSortKey) (S' := fun y => ⟨(7, (.msl 7 11 0 y.length y.length)) :: (6, (vI (p0.length : Int))) :: a1.env, [(7, rowsV (y.map cGSortKey))]⟩) h (by kernel_rfl) (by kernel_rfl) (by kernel_rfl) (by kernel_rfl) (by kernel_rfl) (fun y => by kernel_rfl) ?_
   clear h; intro y1 h
   let a2 : St := ⟨(3, (.msl 7 11 0 y1.length y1.length)) :: (7, (.msl 7 11 0 y1.length y1.length)) :: (6, (vI (p0.length : Int))) :: a1.env, [(7, rowsV (y1.map cGSortKey))]⟩
   refine st 1 a2 (nx (si (so ?_)))
   let a3 : St := a2.p [(4, (vI 0))]
   exact st 1 a3 (nx (bi (loop_go (s' := stwToSortKeyS_L0 p0 0 y1) (wr [] (es (es (es er_nil))) (br_rows (by kernel_rfl) br_nil)) (OK_wToSortKeyS_L0 p0 0 y1 _ h))))
 · intro F_wToSortKeyS_L0 F_wToSortKey OK_wToSortKeyS_L0 OK_wToSortKey p0 x4 b7_0 r h
   delta acwToSortKeyS_L0
   refine loop_unroll (si (so ?_))
   let a4 : St := (stwToSortKeyS_L0 p0 x4 b7_0).p [(9, (.d (.sl 11 (p0.map cGSortKey)))), (8, (vI x4))]
   refine st 2 a4 (ps (vI (p0.length : Int)) (vop_len (sz := 11) (l := p0) (f := cGSortKey) (by kernel_rfl) (by kernel_rfl)) ?_)
   let a5 : St := a4.p [(11, (vB (decide (x4 < (p0.length : Int))))), (10, (vI (p0.length : Int)))]
   refine st 1 a5 (nx ?_)
   refine cd h (fun h => ?_) fun h => ?_
   refine ki (xi (si (bi (oi ?_))))
   let a6 : St := a5.p [(17, (vI x4)), (16, (.d (.sl 11 (p0.map cGSortKey)))), (15, (vI x4)), (14, (.msl 7 11 0 b7_0.length b7_0.length))]
   refine st 4 a6 (vs (fun (y : GSortKey) => (.rp (oGSortKey y))) h (fun y hy => vop_ia (l := p0) (f := cGSortKey) (g := oGSortKey) (k := .i64) hy cGSortKey_eq (by kernel_rfl) (by kernel_rfl) (by kernel_rfl)) fun y2 h => ?_)
   let a7 : St := a6.p [(19, (vGSortKey y2)), (18, (.rp (oGSortKey y2)))]
   refine st 1 a7 (cs h (OK_wToSortKey y2) fun y3 h => (vs (fun (y : GSortKey) => (.ptr 7 ((0 + (x4).toNat) * 11))) h (fun y hy => vop_iaE (l := b7_0) (k := .i64) hy (by kernel_rfl) (by kernel_rfl) (by kernel_rfl)) fun y4 h => ?_))
   refine sti_step (b := 7) (i := x4) (l := b7_0) (v := y3) (f := cGSortKey) (u := (vGSortKey y3)) (T := fun y m => ⟨[(21, (.ptr 7 ((0 + (x4).toNat) * 11))), (20, (vGSortKey y3)), (19, (vGSortKey y2)), (18, (.rp (oGSortKey y2))), (17, (vI x4)), (16, (.d (.sl 11 (p0.map cGSortKey)))), (15, (vI x4)), (14, (.msl 7 11 0 m m)), (11, (vB (decide (x4 < (p0.length : Int))))), (10, (vI (p0.length : Int))), (9, (.d (.sl 11 (p0.map cGSortKey)))), (8, (vI x4)), (0, (.d (.sl 11 (p0.map cGSortKey)))), (3, (.msl 7 11 0 m m)), (4, (vI x4))], [(7, rowsV (y.map cGSortKey))]⟩) h (by kernel_rfl) (by kernel_rfl) (by kernel_rfl) (congrArg (List.map V.d) (cGSortKey_eq y3).symm) (fun y => (congrArg List.length (cGSortKey_eq y)).trans rfl) (by kernel_rfl) (fun y => by kernel_rfl) ?_
   clear h; intro y5 h
   refine ni (bn (xi (oi ?_)))
   let a8 : St := ⟨[(4, (vI (IntKind.wrap .i64 (x4 + 1)))), (13, (vI (IntKind.wrap .i64 (x4 + 1)))), (12, (vI x4)), (21, (.ptr 7 ((0 + (x4).toNat) * 11))), (20, (vGSortKey y3)), (19, (vGSortKey y2)), (18, (.rp (oGSortKey y2))), (17, (vI x4)), (16, (.d (.sl 11 (p0.map cGSortKey)))), (15, (vI x4)), (14, (.msl 7 11 0 y5.length y5.length)), (11, (vB (decide (x4 < (p0.length : Int))))), (10, (vI (p0.length : Int))), (9, (.d (.sl 11 (p0.map cGSortKey)))), (8, (vI x4)), (0, (.d (.sl 11 (p0.map cGSortKey)))), (3, (.msl 7 11 0 y5.length y5.length)), (4, (vI x4))], [(7, rowsV (y5.map cGSortKey))]⟩
   exact st 3 a8 (ni (loop_back (s' := stwToSortKeyS_L0 p0 (IntKind.wrap .i64 (x4 + 1)) y5) (wr [] (es (es (es er_nil))) (br_rows (by kernel_rfl) br_nil)) (OK_wToSortKeyS_L0 p0 (IntKind.wrap .i64 (x4 + 1)) y5 _ h)))
   refine ei (te (te (bh (xi (so ?_)))))
   let a9 : St := a5.p [(2, (.msl 7 11 0 b7_0.length b7_0.length)), (22, (.msl 7 11 0 b7_0.length b7_0.length))]
   refine st 2 a9 (nx (ret_frz (n := 7) (sz := 11) (l := b7_0) (f := cGSortKey) (s' := ⟨[(2, (.d (.sl 11 (b7_0.map cGSortKey))))], []⟩) (by decide) (fun y => (congrArg List.length (cGSortKey_eq y)).trans rfl) (by kernel_rfl) (⟨.inr ⟨b7_0.length, b7_0.length, by kernel_rfl, lms b7_0 _, by kernel_rfl⟩, trivial⟩) (trivial) (ri ?_)))
   injection h with h; subst h
   exact ret1_step (v := (.d (.sl 11 (b7_0.map cGSortKey)))) (by kernel_rfl) (by kernel_rfl) (by kernel_rfl)
 · intro F_wToExpr OK_wToExpr p0 r h
   refine acalls_of_fn trwToSortKey (Nat.le_of_ble_eq_true rfl) (by simp) ?_
   show avc Try.prog acwToSortKey (qwToSortKey _) ⟨[(0, (vGSortKey p0))], []⟩
   delta acwToSortKey
   refine so ?_
   let a0 : St := ⟨[(2, (.ptr 2 0)), (1, (.ptr 1 0)), (0, (vGSortKey p0))], [(2, [(vI 0), (vI 0), (vB false), (vI 0), (vI 0), (vS []), (vS []), (vS []), (.nil 10), (.nil 6), (vB false)]), (1, bGSortKey p0)]⟩
   refine st 2 a0 (nx (so ?_))
   let a1 : St := ⟨(3, (.ptr 3 0)) :: a0.env, [(3, [(vI 0), (vI 0), (vB false), (vI 0), (vI 0), (vS []), (vS []), (vS []), (.nil 10), (.nil 6), (vB false)]), (2, [(vI 0), (vI 0), (vB false), (vI 0), (vI 0), (vS []), (vS []), (vS []), (.nil 10), (.nil 6), (vB false)]), (1, bGSortKey p0)]⟩
   refine st 1 a1 (nx (so ?_))
   let a2 : St := a1.p [(5, (vGExpr p0.expr)), (4, (.ptr 1 0))]
   refine st 2 a2 (cs h (OK_wToExpr p0.expr) fun y1 h => ?_)
   let a3 : St := ⟨(7, (.ptr 3 0)) :: (6, (vGExpr y1)) :: a2.env, [(3, [(vI y1.kind), (vI y1.op), (vB y1.not_), (vI y1.value.kind), (vI y1.value.num), (vS y1.value.text), (vS y1.qual), (vS y1.name), (.d (.sl 10 (y1.kids.map cGExpr))), (.d (.sl 6 (y1.sub.map cGQuery))), (vB false)]), (2, [(vI 0), (vI 0), (vB false), (vI 0), (vI 0), (vS []), (vS []), (vS []), (.nil 10), (.nil 6), (vB false)]), (1, bGSortKey p0)]⟩
   refine st 2 a3 (nx (so ?_))
   let a4 : St := ⟨(10, (.ptr 3 10)) :: (9, (vB p0.desc)) :: (8, (.ptr 1 10)) :: a3.env, [(3, [(vI y1.kind), (vI y1.op), (vB y1.not_), (vI y1.value.kind), (vI y1.value.num), (vS y1.value.text), (vS y1.qual), (vS y1.name), (.d (.sl 10 (y1.kids.map cGExpr))), (.d (.sl 6 (y1.sub.map cGQuery))), (vB p0.desc)]), (2, [(vI 0), (vI 0), (vB false), (vI 0), (vI 0), (vS []), (vS []), (vS []), (.nil 10), (.nil 6), (vB false)]), (1, bGSortKey p0)]⟩
   refine st 4 a4 (nx (so ?_))
   let a5 : St := ⟨(11, (vGSortKey (GSortKey.mk y1 p0.desc))) :: a4.env, [(3, [(vI y1.kind), (vI y1.op), (vB y1.not_), (vI y1.value.kind), (vI y1.value.num), (vS y1.value.text), (vS y1.qual), (vS y1.name), (.d (.sl 10 (y1.kids.map cGExpr))), (.d (.sl 6 (y1.sub.map cGQuery))), (vB p0.desc)]), (2, bGSortKey (GSortKey.mk y1 p0.desc)), (1, bGSortKey p0)]⟩
   refine st 2 a5 (nx (ri ?_))
   injection h with h; subst h
   exact ret1_step (v := (vGSortKey (GSortKey.mk y1 p0.desc))) (by kernel_rfl) (by kernel_rfl) (by kernel_rfl)
 · intro F_wToSourceS_L0 OK_wToSourceS_L0 p0 r h
   refine acalls_of_fn trwToSourceS (Nat.le_of_ble_eq_true rfl) (by simp) ?_
   show avc Try.prog acwToSourceS (qwToSourceS _) ⟨[(0, (.d (.sl 3 (p0.map cGSource))))], []⟩
   delta acwToSourceS
   refine so ?_
   let a0 : St := ⟨[(2, (.nil 3)), (0, (.d (.sl 3 (p0.map cGSource))))], []⟩
   refine st 1 a0 (nx (so ?_))
   let a1 : St := a0.p [(5, (.d (.sl 3 (p0.map cGSource))))]
   refine st 1 a1 (ps (vI (p0.length : Int)) (vop_len (sz := 3) (l := p0) (f := cGSource) (by kernel_rfl) (by kernel_rfl)) ?_)
   refine mks_step (k := .i64) (k' := .i64) (z := ((GSource.mk [] [] ([] : List GExpr)) : GSource)) (f := cGSource) (S' := fun y => ⟨(7, (.msl 7 3 0 y.length y.length)) :: (6, (vI (p0.length : Int))) :: a1.env, [(7, rowsV (y.map cGSource))]⟩) h (by kernel_rfl) (by kernel_rfl) (by kernel_rfl) (by kernel_rfl) (by kernel_rfl) (fun y => by kernel_rfl) ?_
   clear h; intro y1 h
   let a2 : St := ⟨(3, (.msl 7 3 0 y1.length y1.length)) :: (7, (.msl 7 3 0 y1.length y1.length)) :: (6, (vI (p0.length : Int))) :: a1.env, [(7, rowsV (y1.map cGSource))]⟩
   refine st 1 a2 (nx (si (so ?_)))
   let a3 : St := a2.p [(4, (vI 0))]
   exact st 1 a3 (nx (bi (loop_go (s' := stwToSourceS_L0 p0 0 y1) (wr [] (es (es (es er_nil))) (br_rows (by kernel_rfl) br_nil)) (OK_wToSourceS_L0 p0 0 y1 _ h))))
 · intro F_wToSource F_wToSourceS_L0 OK_wToSource OK_wToSourceS_L0 p0 x4 b7_0 r h
   delta acwToSourceS_L0
   refine loop_unroll (si (so ?_))
   let a4 : St := (stwToSourceS_L0 p0 x4 b7_0).p [(9, (.d (.sl 3 (p0.map cGSource)))), (8, (vI x4))]
   refine st 2 a4 (ps (vI (p0.length : Int)) (vop_len (sz := 3) (l := p0) (f := cGSource) (by kernel_rfl) (by kernel_rfl)) ?_)
   let a5 : St := a4.p [(11, (vB (decide (x4 < (p0.length : Int))))), (10, (vI (p0.length : Int)))]
   refine st 1 a5 (nx ?_)
   refine cd h (fun h => ?_) fun h => ?_
   refine ki (xi (si (bi (oi ?_))))
   let a6 : St := a5.p [(17, (vI x4)), (16, (.d (.sl 3 (p0.map cGSource)))), (15, (vI x4)), (14, (.msl 7 3 0 b7_0.length b7_0.length))]
   refine st 4 a6 (vs (fun (y : GSource) => (.rp (oGSource y))) h (fun y hy => vop_ia (l := p0) (f := cGSource) (g := oGSource) (k := .i64) hy cGSource_eq (by kernel_rfl) (by kernel_rfl) (by kernel_rfl)) fun y2 h => ?_)
   let a7 : St := a6.p [(19, (vGSource y2)), (18, (.rp (oGSource y2)))]
   refine st 1 a7 (cs h (OK_wToSource y2) fun y3 h => (vs (fun (y : GSource) => (.ptr 7 ((0 + (x4).toNat) * 3))) h (fun y hy => vop_iaE (l := b7_0) (k := .i64) hy (by kernel_rfl) (by kernel_rfl) (by kernel_rfl)) fun y4 h => ?_))
   refine sti_step (b := 7) (i := x4) (l := b7_0) (v := y3) (f := cGSource) (u := (vGSource y3)) (T := fun y m => ⟨[(21, (.ptr 7 ((0 + (x4).toNat) * 3))), (20, (vGSource y3)), (19, (vGSource y2)), (18, (.rp (oGSource y2))), (17, (vI x4)), (16, (.d (.sl 3 (p0.map cGSource)))), (15, (vI x4)), (14, (.msl 7 3 0 m m)), (11, (vB (decide (x4 < (p0.length : Int))))), (10, (vI (p0.length : Int))), (9, (.d (.sl 3 (p0.map cGSource)))), (8, (vI x4)), (0, (.d (.sl 3 (p0.map cGSource)))), (3, (.msl 7 3 0 m m)), (4, (vI x4))], [(7, rowsV (y.map cGSource))]⟩) h (by kernel_rfl) (by kernel_rfl) (by kernel_rfl) (congrArg (List.map V.d) (cGSource_eq y3).symm) (fun y => (congrArg List.length (cGSource_eq y)).trans rfl) (by kernel_rfl) (fun y => by kernel_rfl) ?_
   clear h; intro y5 h
   refine ni (bn (xi (oi ?_)))
   let a8 : St := ⟨[(4, (vI (IntKind.wrap .i64 (x4 + 1)))), (13, (vI (IntKind.wrap .i64 (x4 + 1)))), (12, (vI x4)), (21, (.ptr 7 ((0 + (x4).toNat) * 3))), (20, (vGSource y3)), (19, (vGSource y2)), (18, (.rp (oGSource y2))), (17, (vI x4)), (16, (.d (.sl 3 (p0.map cGSource)))), (15, (vI x4)), (14, (.msl 7 3 0 y5.length y5.length)), (11, (vB (decide (x4 < (p0.length : Int))))), (10, (vI (p0.length : Int))), (9, (.d (.sl 3 (p0.map cGSource)))), (8, (vI x4)), (0, (.d (.sl 3 (p0.map cGSource)))), (3, (.msl 7 3 0 y5.length y5.length)), (4, (vI x4))], [(7, rowsV (y5.map cGSource))]⟩
   exact st 3 a8 (ni (loop_back (s' := stwToSourceS_L0 p0 (IntKind.wrap .i64 (x4 + 1)) y5) (wr [] (es (es (es er_nil))) (br_rows (by kernel_rfl) br_nil)) (OK_wToSourceS_L0 p0 (IntKind.wrap .i64 (x4 + 1)) y5 _ h)))
   refine ei (te (te (bh (xi (so ?_)))))
   let a9 : St := a5.p [(2, (.msl 7 3 0 b7_0.length b7_0.length)), (22, (.msl 7 3 0 b7_0.length b7_0.length))]
   refine st 2 a9 (nx (ret_frz (n := 7) (sz := 3) (l := b7_0) (f := cGSource) (s' := ⟨[(2, (.d (.sl 3 (b7_0.map cGSource))))], []⟩) (by decide) (fun y => (congrArg List.length (cGSource_eq y)).trans rfl) (by kernel_rfl) (⟨.inr ⟨b7_0.length, b7_0.length, by kernel_rfl, lms b7_0 _, by kernel_rfl⟩, trivial⟩) (trivial) (ri ?_)))
   injection h with h; subst h
   exact ret1_step (v := (.d (.sl 3 (b7_0.map cGSource)))) (by kernel_rfl) (by kernel_rfl) (by kernel_rfl)
 · intro F_wToItemS_L0 OK_wToItemS_L0 p0 r h
   refine acalls_of_fn trwToItemS (Nat.le_of_ble_eq_true rfl) (by simp) ?_
   show avc Try.prog acwToItemS (qwToItemS _) ⟨[(0, (.d (.sl 13 (p0.map cGItem))))], []⟩
   delta acwToItemS
   refine so ?_
   let a0 : St := ⟨[(2, (.nil 13)), (0, (.d (.sl 13 (p0.map cGItem))))], []⟩
   refine st 1 a0 (nx (so ?_))
   let a1 : St := a0.p [(5, (.d (.sl 13 (p0.map cGItem))))]
   refine st 1 a1 (ps (vI (p0.length : Int)) (vop_len (sz := 13) (l := p0) (f := cGItem) (by kernel_rfl) (by kernel_rfl)) ?_)
   refine mks_step (k := .i64) (k' := .i64) (z := ((GItem.mk false [] (GExpr.mk 0 0 false (GValue.mk 0 0 []) [] [] ([] : List GExpr) ([] : List GQuery)) []) : GItem)) (f := cGItem) (S' := fun y => ⟨(7, (.msl 7 13 0 y.length y.length)) :: (6, (vI (p0.length : Int))) :: a1.env, [(7, rowsV (y.map cGItem))]⟩) h (by kernel_rfl) (by kernel_rfl) (by kernel_rfl) (by kernel_rfl) (by kernel_rfl) (fun y => by kernel_rfl) ?_
   clear h; intro y1 h
   let a2 : St := ⟨(3, (.msl 7 13 0 y1.length y1.length)) :: (7, (.msl 7 13 0 y1.length y1.length)) :: (6, (vI (p0.length : Int))) :: a1.env, [(7, rowsV (y1.map cGItem))]⟩
   refine st 1 a2 (nx (si (so ?_)))
   let a3 : St := a2.p [(4, (vI 0))]
   exact st 1 a3 (nx (bi (loop_go (s' := stwToItemS_L0 p0 0 y1) (wr [] (es (es (es er_nil))) (br_rows (by kernel_rfl) br_nil)) (OK_wToItemS_L0 p0 0 y1 _ h))))
 · intro F_wToItemS_L0 F_wToItem OK_wToItemS_L0 OK_wToItem p0 x4 b7_0 r h
   delta acwToItemS_L0
   refine loop_unroll (si (so ?_))
   let a4 : St := (stwToItemS_L0 p0 x4 b7_0).p [(9, (.d (.sl 13 (p0.map cGItem)))), (8, (vI x4))]
   refine st 2 a4 (ps (vI (p0.length : Int)) (vop_len (sz := 13) (l := p0) (f := cGItem) (by kernel_rfl) (by kernel_rfl)) ?_)
   let a5 : St := a4.p [(11, (vB (decide (x4 < (p0.length : Int))))), (10, (vI (p0.length : Int)))]
   refine st 1 a5 (nx ?_)
   refine cd h (fun h => ?_) fun h => ?_
   refine ki (xi (si (bi (oi ?_))))
   let a6 : St := a5.p [(17, (vI x4)), (16, (.d (.sl 13 (p0.map cGItem)))), (15, (vI x4)), (14, (.msl 7 13 0 b7_0.length b7_0.length))]
   refine st 4 a6 (vs (fun (y : GItem) => (.rp (oGItem y))) h (fun y hy => vop_ia (l := p0) (f := cGItem) (g := oGItem) (k := .i64) hy cGItem_eq (by kernel_rfl) (by kernel_rfl) (by kernel_rfl)) fun y2 h => ?_)
   let a7 : St := a6.p [(19, (vGItem y2)), (18, (.rp (oGItem y2)))]
   refine st 1 a7 (cs h (OK_wToItem y2) fun y3 h => (vs (fun (y : GItem) => (.ptr 7 ((0 + (x4).toNat) * 13))) h (fun y hy => vop_iaE (l := b7_0) (k := .i64) hy (by kernel_rfl) (by kernel_rfl) (by kernel_rfl)) fun y4 h => ?_))
   refine sti_step (b := 7) (i := x4) (l := b7_0) (v := y3) (f := cGItem) (u := (vGItem y3)) (T := fun y m => ⟨[(21, (.ptr 7 ((0 + (x4).toNat) * 13))), (20, (vGItem y3)), (19, (vGItem y2)), (18, (.rp (oGItem y2))), (17, (vI x4)), (16, (.d (.sl 13 (p0.map cGItem)))), (15, (vI x4)), (14, (.msl 7 13 0 m m)), (11, (vB (decide (x4 < (p0.length : Int))))), (10, (vI (p0.length : Int))), (9, (.d (.sl 13 (p0.map cGItem)))), (8, (vI x4)), (0, (.d (.sl 13 (p0.map cGItem)))), (3, (.msl 7 13 0 m m)), (4, (vI x4))], [(7, rowsV (y.map cGItem))]⟩) h (by kernel_rfl) (by kernel_rfl) (by kernel_rfl) (congrArg (List.map V.d) (cGItem_eq y3).symm) (fun y => (congrArg List.length (cGItem_eq y)).trans rfl) (by kernel_rfl) (fun y => by kernel_rfl) ?_
   clear h; intro y5 h
   refine ni (bn (xi (oi ?_)))
   let a8 : St := ⟨[(4, (vI (IntKind.wrap .i64 (x4 + 1)))), (13, (vI (IntKind.wrap .i64 (x4 + 1)))), (12, (vI x4)), (21, (.ptr 7 ((0 + (x4).toNat) * 13))), (20, (vGItem y3)), (19, (vGItem y2)), (18, (.rp (oGItem y2))), (17, (vI x4)), (16, (.d (.sl 13 (p0.map cGItem)))), (15, (vI x4)), (14, (.msl 7 13 0 y5.length y5.length)), (11, (vB (decide (x4 < (p0.length : Int))))), (10, (vI (p0.length : Int))), (9, (.d (.sl 13 (p0.map cGItem)))), (8, (vI x4)), (0, (.d (.sl 13 (p0.map cGItem)))), (3, (.msl 7 13 0 y5.length y5.length)), (4, (vI x4))], [(7, rowsV (y5.map cGItem))]⟩
   exact st 3 a8 (ni (loop_back (s' := stwToItemS_L0 p0 (IntKind.wrap .i64 (x4 + 1)) y5) (wr [] (es (es (es er_nil))) (br_rows (by kernel_rfl) br_nil)) (OK_wToItemS_L0 p0 (IntKind.wrap .i64 (x4 + 1)) y5 _ h)))
   refine ei (te (te (bh (xi (so ?_)))))
   let a9 : St := a5.p [(2, (.msl 7 13 0 b7_0.length b7_0.length)), (22, (.msl 7 13 0 b7_0.length b7_0.length))]
   refine st 2 a9 (nx (ret_frz (n := 7) (sz := 13) (l := b7_0) (f := cGItem) (s' := ⟨[(2, (.d (.sl 13 (b7_0.map cGItem))))], []⟩) (by decide) (fun y => (congrArg List.length (cGItem_eq y)).trans rfl) (by kernel_rfl) (⟨.inr ⟨b7_0.length, b7_0.length, by kernel_rfl, lms b7_0 _, by kernel_rfl⟩, trivial⟩) (trivial) (ri ?_)))
   injection h with h; subst h
   exact ret1_step (v := (.d (.sl 13 (b7_0.map cGItem)))) (by kernel_rfl) (by kernel_rfl) (by kernel_rfl)
 · intro F_wToExpr OK_wToExpr p0 r h
   refine acalls_of_fn trwToItem (Nat.le_of_ble_eq_true rfl) (by simp) ?_
   show avc Try.prog acwToItem (qwToItem _) ⟨[(0, (vGItem p0))], []⟩
   delta acwToItem
   refine so ?_
   let a0 : St := ⟨[(2, (.ptr 2 0)), (1, (.ptr 1 0)), (0, (vGItem p0))], [(2, [(vB false), (vS []), (vI 0), (vI 0), (vB false), (vI 0), (vI 0), (vS []), (vS []), (vS []), (.nil 10), (.nil 6), (vS [])]), (1, bGItem p0)]⟩
   refine st 2 a0 (nx (so ?_))
   let a1 : St := ⟨(3, (.ptr 3 0)) :: a0.env, [(3, [(vB false), (vS []), (vI 0), (vI 0), (vB false), (vI 0), (vI 0), (vS []), (vS []), (vS []), (.nil 10), (.nil 6), (vS [])]), (2, [(vB false), (vS []), (vI 0), (vI 0), (vB false), (vI 0), (vI 0), (vS []), (vS []), (vS []), (.nil 10), (.nil 6), (vS [])]), (1, bGItem p0)]⟩
   refine st 1 a1 (nx (so ?_))
   let a2 : St := ⟨(6, (.ptr 3 0)) :: (5, (vB p0.star)) :: (4, (.ptr 1 0)) :: a1.env, [(3, [(vB p0.star), (vS []), (vI 0), (vI 0), (vB false), (vI 0), (vI 0), (vS []), (vS []), (vS []), (.nil 10), (.nil 6), (vS [])]), (2, [(vB false), (vS []), (vI 0), (vI 0), (vB false), (vI 0), (vI 0), (vS []), (vS []), (vS []), (.nil 10), (.nil 6), (vS [])]), (1, bGItem p0)]⟩
   refine st 4 a2 (nx (so ?_))
   let a3 : St := ⟨(9, (.ptr 3 1)) :: (8, (vS p0.qual)) :: (7, (.ptr 1 1)) :: a2.env, [(3, [(vB p0.star), (vS p0.qual), (vI 0), (vI 0), (vB false), (vI 0), (vI 0), (vS []), (vS []), (vS []), (.nil 10), (.nil 6), (vS [])]), (2, [(vB false), (vS []), (vI 0), (vI 0), (vB false), (vI 0), (vI 0), (vS []), (vS []), (vS []), (.nil 10), (.nil 6), (vS [])]), (1, bGItem p0)]⟩
   refine st 4 a3 (nx (so ?_))
   let a4 : St := a3.p [(11, (vGExpr p0.expr)), (10, (.ptr 1 2))]
   refine st 2 a4 (cs h (OK_wToExpr p0.expr) fun y1 h => ?_)
   let a5 : St := ⟨(13, (.ptr 3 2)) :: (12, (vGExpr y1)) :: a4.env, [(3, [(vB p0.star), (vS p0.qual), (vI y1.kind), (vI y1.op), (vB y1.not_), (vI y1.value.kind), (vI y1.value.num), (vS y1.value.text), (vS y1.qual), (vS y1.name), (.d (.sl 10 (y1.kids.map cGExpr))), (.d (.sl 6 (y1.sub.map cGQuery))), (vS [])]), (2, [(vB false), (vS []), (vI 0), (vI 0), (vB false), (vI 0), (vI 0), (vS []), (vS []), (vS []), (.nil 10), (.nil 6), (vS [])]), (1, bGItem p0)]⟩
   refine st 2 a5 (nx (so ?_))
   let a6 : St := ⟨(16, (.ptr 3 12)) :: (15, (vS p0.as_)) :: (14, (.ptr 1 12)) :: a5.env, [(3, [(vB p0.star), (vS p0.qual), (vI y1.kind), (vI y1.op), (vB y1.not_), (vI y1.value.kind), (vI y1.value.num), (vS y1.value.text), (vS y1.qual), (vS y1.name), (.d (.sl 10 (y1.kids.map cGExpr))), (.d (.sl 6 (y1.sub.map cGQuery))), (vS p0.as_)]), (2, [(vB false), (vS []), (vI 0), (vI 0), (vB false), (vI 0), (vI 0), (vS []), (vS []), (vS []), (.nil 10), (.nil 6), (vS [])]), (1, bGItem p0)]⟩
   refine st 4 a6 (nx (so ?_))
   let a7 : St := ⟨(17, (vGItem (GItem.mk p0.star p0.qual y1 p0.as_))) :: a6.env, [(3, [(vB p0.star), (vS p0.qual), (vI y1.kind), (vI y1.op), (vB y1.not_), (vI y1.value.kind), (vI y1.value.num), (vS y1.value.text), (vS y1.qual), (vS y1.name), (.d (.sl 10 (y1.kids.map cGExpr))), (.d (.sl 6 (y1.sub.map cGQuery))), (vS p0.as_)]), (2, bGItem (GItem.mk p0.star p0.qual y1 p0.as_)), (1, bGItem p0)]⟩
   refine st 2 a7 (nx (ri ?_))
   injection h with h; subst h
   exact ret1_step (v := (vGItem (GItem.mk p0.star p0.qual y1 p0.as_))) (by kernel_rfl) (by kernel_rfl) (by kernel_rfl)
theorem OK_wToSource (p0 : GSource) : FOk Try.prog 121 [(vGSource p0)] (fun y => (vGSource y)) (wToSource p0) := fun r h => (OKs_wToSource).1 p0 r h
theorem OK_wToExprS (p0 : (List GExpr)) : FOk Try.prog 63 [(.d (.sl 10 (p0.map cGExpr)))] (fun y => (.d (.sl 10 (y.map cGExpr)))) (wToExprS p0) := fun r h => (OKs_wToSource).2.1 p0 r h
theorem OK_wToExprS_L0 (p0 : (List GExpr)) (x4 : Int) (b7_0 : (List GExpr)) (r : (List GExpr)) (h : wToExprS_L0 p0 x4 b7_0 = some r) : avc Try.prog acwToExprS_L0 (qwToExprS_1 r) (stwToExprS_L0 p0 x4 b7_0) := (OKs_wToSource).2.2.1 p0 x4 b7_0 r h
theorem OK_wToExpr (p0 : GExpr) : FOk Try.prog 21 [(vGExpr p0)] (fun y => (vGExpr y)) (wToExpr p0) := fun r h => (OKs_wToSource).2.2.2.1 p0 r h
theorem OK_wToQueryS (p0 : (List GQuery)) : FOk Try.prog 74 [(.d (.sl 6 (p0.map cGQuery)))] (fun y => (.d (.sl 6 (y.map cGQuery)))) (wToQueryS p0) := fun r h => (OKs_wToSource).2.2.2.2.1 p0 r h
theorem OK_wToQueryS_L0 (p0 : (List GQuery)) (x4 : Int) (b7_0 : (List GQuery)) (r : (List GQuery)) (h : wToQueryS_L0 p0 x4 b7_0 = some r) : avc Try.prog acwToQueryS_L0 (qwToQueryS_1 r) (stwToQueryS_L0 p0 x4 b7_0) := (OKs_wToSource).2.2.2.2.2.1 p0 x4 b7_0 r h
theorem OK_wToQuery (p0 : GQuery) : FOk Try.prog 16 [(vGQuery p0)] (fun y => (vGQuery y)) (wToQuery p0) := fun r h => (OKs_wToSource).2.2.2.2.2.2.1 p0 r h
theorem OK_wToSortKeyS (p0 : (List GSortKey)) : FOk Try.prog 64 [(.d (.sl 11 (p0.map cGSortKey)))] (fun y => (.d (.sl 11 (y.map cGSortKey)))) (wToSortKeyS p0) := fun r h => (OKs_wToSource).2.2.2.2.2.2.2.1 p0 r h
theorem OK_wToSortKeyS_L0 (p0 : (List GSortKey)) (x4 : Int) (b7_0 : (List GSortKey)) (r : (List GSortKey)) (h : wToSortKeyS_L0 p0 x4 b7_0 = some r) : avc Try.prog acwToSortKeyS_L0 (qwToSortKeyS_1 r) (stwToSortKeyS_L0 p0 x4 b7_0) := (OKs_wToSource).2.2.2.2.2.2.2.2.1 p0 x4 b7_0 r h
theorem OK_wToSortKey (p0 : GSortKey) : FOk Try.prog 122 [(vGSortKey p0)] (fun y => (vGSortKey y)) (wToSortKey p0) := fun r h => (OKs_wToSource).2.2.2.2.2.2.2.2.2.1 p0 r h
theorem OK_wToSourceS (p0 : (List GSource)) : FOk Try.prog 62 [(.d (.sl 3 (p0.map cGSource)))] (fun y => (.d (.sl 3 (y.map cGSource)))) (wToSourceS p0) := fun r h => (OKs_wToSource).2.2.2.2.2.2.2.2.2.2.1 p0 r h
theorem OK_wToSourceS_L0 (p0 : (List GSource)) (x4 : Int) (b7_0 : (List GSource)) (r : (List GSource)) (h : wToSourceS_L0 p0 x4 b7_0 = some r) : avc Try.prog acwToSourceS_L0 (qwToSourceS_1 r) (stwToSourceS_L0 p0 x4 b7_0) := (OKs_wToSource).2.2.2.2.2.2.2.2.2.2.2.1 p0 x4 b7_0 r h
theorem OK_wToItemS (p0 : (List GItem)) : FOk Try.prog 61 [(.d (.sl 13 (p0.map cGItem)))] (fun y => (.d (.sl 13 (y.map cGItem)))) (wToItemS p0) := fun r h => (OKs_wToSource).2.2.2.2.2.2.2.2.2.2.2.2.1 p0 r h
theorem OK_wToItemS_L0 (p0 : (List GItem)) (x4 : Int) (b7_0 : (List GItem)) (r : (List GItem)) (h : wToItemS_L0 p0 x4 b7_0 = some r) : avc Try.prog acwToItemS_L0 (qwToItemS_1 r) (stwToItemS_L0 p0 x4 b7_0) := (OKs_wToSource).2.2.2.2.2.2.2.2.2.2.2.2.2.1 p0 x4 b7_0 r h
theorem OK_wToItem (p0 : GItem) : FOk Try.prog 120 [(vGItem p0)] (fun y => (vGItem y)) (wToItem p0) := fun r h => (OKs_wToSource).2.2.2.2.2.2.2.2.2.2.2.2.2.2 p0 r h
theorem OKs_wToExprSS_L0 (p0 : (List (List GExpr))) : (∀ (x4 : Int) (b7_0 : (List (List GExpr))) (r : (List (List GExpr))), wToExprSS_L0 p0 x4 b7_0 = some r → avc Try.prog acwToExprSS_L0 (qwToExprSS_1 r) (stwToExprSS_L0 p0 x4 b7_0)) := by
 refine wToExprSS_L0.partial_correctness p0 (fun x4 b7_0 r => avc Try.prog acwToExprSS_L0 (qwToExprSS_1 r) (stwToExprSS_L0 p0 x4 b7_0)) ?_
 · intro F_wToExprSS_L0 OK_wToExprSS_L0 x4 b7_0 r h
   delta acwToExprSS_L0
   refine loop_unroll (si (so ?_))
   let a4 : St := (stwToExprSS_L0 p0 x4 b7_0).p [(9, (.d (.sl 1 (p0.map (cSl 10 cGExpr))))), (8, (vI x4))]
   refine st 2 a4 (ps (vI (p0.length : Int)) (vop_len (sz := 1) (l := p0) (f := (cSl 10 cGExpr)) (by kernel_rfl) (by kernel_rfl)) ?_)
   let a5 : St := a4.p [(11, (vB (decide (x4 < (p0.length : Int))))), (10, (vI (p0.length : Int)))]
   refine st 1 a5 (nx ?_)
   refine cd h (fun h => ?_) fun h => ?_
   refine ki (xi (si (bi (oi ?_))))
   let a6 : St := a5.p [(17, (vI x4)), (16, (.d (.sl 1 (p0.map (cSl 10 cGExpr))))), (15, (vI x4)), (14, (.msl 7 1 0 b7_0.length b7_0.length))]
   refine st 4 a6 (vs (fun (y : (List GExpr)) => (.rp [(.sl 10 (y.map cGExpr))])) h (fun y hy => vop_ia (l := p0) (f := (cSl 10 cGExpr)) (g := (cSl 10 cGExpr)) (k := .i64) hy (fun _ => rfl) (by kernel_rfl) (by kernel_rfl) (by kernel_rfl)) fun y2 h => ?_)
   let a7 : St := a6.p [(19, (.d (.sl 10 (y2.map cGExpr)))), (18, (.rp [(.sl 10 (y2.map cGExpr))]))]
   refine st 1 a7 (cs h (OK_wToExprS y2) fun y3 h => (vs (fun (y : (List GExpr)) => (.ptr 7 ((0 + (x4).toNat) * 1))) h (fun y hy => vop_iaE (l := b7_0) (k := .i64) hy (by kernel_rfl) (by kernel_rfl) (by kernel_rfl)) fun y4 h => ?_))
   refine sti_step (b := 7) (i := x4) (l := b7_0) (v := y3) (f := (cSl 10 cGExpr)) (u := (.d (.sl 10 (y3.map cGExpr)))) (T := fun y m => ⟨[(21, (.ptr 7 ((0 + (x4).toNat) * 1))), (20, (.d (.sl 10 (y3.map cGExpr)))), (19, (.d (.sl 10 (y2.map cGExpr)))), (18, (.rp [(.sl 10 (y2.map cGExpr))])), (17, (vI x4)), (16, (.d (.sl 1 (p0.map (cSl 10 cGExpr))))), (15, (vI x4)), (14, (.msl 7 1 0 m m)), (11, (vB (decide (x4 < (p0.length : Int))))), (10, (vI (p0.length : Int))), (9, (.d (.sl 1 (p0.map (cSl 10 cGExpr))))), (8, (vI x4)), (0, (.d (.sl 1 (p0.map (cSl 10 cGExpr))))), (3, (.msl 7 1 0 m m)), (4, (vI x4))], [(7, rowsV (y.map (cSl 10 cGExpr)))]⟩) h (by kernel_rfl) (by kernel_rfl) (by kernel_rfl) (by kernel_rfl) (fun y => (congrArg List.length ((fun _ => rfl) y)).trans rfl) (by kernel_rfl) (fun y => by kernel_rfl) ?_
   clear h; intro y5 h
   refine ni (bn (xi (oi ?_)))
   let a8 : St := ⟨[(4, (vI (IntKind.wrap .i64 (x4 + 1)))), (13, (vI (IntKind.wrap .i64 (x4 + 1)))), (12, (vI x4)), (21, (.ptr 7 ((0 + (x4).toNat) * 1))), (20, (.d (.sl 10 (y3.map cGExpr)))), (19, (.d (.sl 10 (y2.map cGExpr)))), (18, (.rp [(.sl 10 (y2.map cGExpr))])), (17, (vI x4)), (16, (.d (.sl 1 (p0.map (cSl 10 cGExpr))))), (15, (vI x4)), (14, (.msl 7 1 0 y5.length y5.length)), (11, (vB (decide (x4 < (p0.length : Int))))), (10, (vI (p0.length : Int))), (9, (.d (.sl 1 (p0.map (cSl 10 cGExpr))))), (8, (vI x4)), (0, (.d (.sl 1 (p0.map (cSl 10 cGExpr))))), (3, (.msl 7 1 0 y5.length y5.length)), (4, (vI x4))], [(7, rowsV (y5.map (cSl 10 cGExpr)))]⟩
   exact st 3 a8 (ni (loop_back (s' := stwToExprSS_L0 p0 (IntKind.wrap .i64 (x4 + 1)) y5) (wr [] (es (es (es er_nil))) (br_rows (by kernel_rfl) br_nil)) (OK_wToExprSS_L0 (IntKind.wrap .i64 (x4 + 1)) y5 _ h)))
   refine ei (te (te (bh (xi (so ?_)))))
   let a9 : St := a5.p [(2, (.msl 7 1 0 b7_0.length b7_0.length)), (22, (.msl 7 1 0 b7_0.length b7_0.length))]
   refine st 2 a9 (nx (ret_frz (n := 7) (sz := 1) (l := b7_0) (f := (cSl 10 cGExpr)) (s' := ⟨[(2, (.d (.sl 1 (b7_0.map (cSl 10 cGExpr)))))], []⟩) (by decide) (fun y => (congrArg List.length ((fun _ => rfl) y)).trans rfl) (by kernel_rfl) (⟨.inr ⟨b7_0.length, b7_0.length, by kernel_rfl, lms b7_0 _, by kernel_rfl⟩, trivial⟩) (trivial) (ri ?_)))
   injection h with h; subst h
   exact ret1_step (v := (.d (.sl 1 (b7_0.map (cSl 10 cGExpr))))) (by kernel_rfl) (by kernel_rfl) (by kernel_rfl)
theorem OK_wToExprSS_L0 (p0 : (List (List GExpr))) (x4 : Int) (b7_0 : (List (List GExpr))) (r : (List (List GExpr))) (h : wToExprSS_L0 p0 x4 b7_0 = some r) : avc Try.prog acwToExprSS_L0 (qwToExprSS_1 r) (stwToExprSS_L0 p0 x4 b7_0) := (OKs_wToExprSS_L0 p0) x4 b7_0 r h
theorem OK_wToExprSS (p0 : (List (List GExpr))) : FOk Try.prog 94 [(.d (.sl 1 (p0.map (cSl 10 cGExpr))))] (fun y => (.d (.sl 1 (y.map (cSl 10 cGExpr))))) (wToExprSS p0) := by
 intro r h
 rw [wToExprSS] at h
 refine acalls_of_fn trwToExprSS (Nat.le_of_ble_eq_true rfl) (by simp) ?_
 show avc Try.prog acwToExprSS (qwToExprSS _) ⟨[(0, (.d (.sl 1 (p0.map (cSl 10 cGExpr)))))], []⟩
 delta acwToExprSS
 refine so ?_
 let a0 : St := ⟨[(2, (.nil 1)), (0, (.d (.sl 1 (p0.map (cSl 10 cGExpr)))))], []⟩
 refine st 1 a0 (nx (so ?_))
 let a1 : St := a0.p [(5, (.d (.sl 1 (p0.map (cSl 10 cGExpr)))))]
 refine st 1 a1 (ps (vI (p0.length : Int)) (vop_len (sz := 1) (l := p0) (f := (cSl 10 cGExpr)) (by kernel_rfl) (by kernel_rfl)) ?_)
 refine mks_step (k := .i64) (k' := .i64) (z := (([] : List GExpr) : (List GExpr))) (f := (cSl 10 cGExpr)) (S' := fun y => ⟨(7, (.msl 7 1 0 y.length y.length)) :: (6, (vI (p0.length : Int))) :: a1.env, [(7, rowsV (y.map (cSl 10 cGExpr)))]⟩) h (by kernel_rfl) (by kernel_rfl) (by kernel_rfl) (by kernel_rfl) (by kernel_rfl) (fun y => by kernel_rfl) ?_
 clear h; intro y1 h
 let a2 : St := ⟨(3, (.msl 7 1 0 y1.length y1.length)) :: (7, (.msl 7 1 0 y1.length y1.length)) :: (6, (vI (p0.length : Int))) :: a1.env, [(7, rowsV (y1.map (cSl 10 cGExpr)))]⟩
 refine st 1 a2 (nx (si (so ?_)))
 let a3 : St := a2.p [(4, (vI 0))]
 exact st 1 a3 (nx (bi (loop_go (s' := stwToExprSS_L0 p0 0 y1) (wr [] (es (es (es er_nil))) (br_rows (by kernel_rfl) br_nil)) (OK_wToExprSS_L0 p0 0 y1 _ h))))
theorem OKs_wToStringS_L0 (p0 : (List (List UInt8))) : (∀ (x4 : Int) (b7_0 : (List (List UInt8))) (r : (List (List UInt8))), wToStringS_L0 p0 x4 b7_0 = some r → avc Try.prog acwToStringS_L0 (qwToStringS_1 r) (stwToStringS_L0 p0 x4 b7_0)) := by
 refine wToStringS_L0.partial_correctness p0 (fun x4 b7_0 r => avc Try.prog acwToStringS_L0 (qwToStringS_1 r) (stwToStringS_L0 p0 x4 b7_0)) ?_
 · intro F_wToStringS_L0 OK_wToStringS_L0 x4 b7_0 r h
   delta acwToStringS_L0
   refine loop_unroll (si (so ?_))
   let a4 : St := (stwToStringS_L0 p0 x4 b7_0).p [(9, (.d (.sl 1 (p0.map cStr)))), (8, (vI x4))]
   refine st 2 a4 (ps (vI (p0.length : Int)) (vop_len (sz := 1) (l := p0) (f := cStr) (by kernel_rfl) (by kernel_rfl)) ?_)
   let a5 : St := a4.p [(11, (vB (decide (x4 < (p0.length : Int))))), (10, (vI (p0.length : Int)))]
   refine st 1 a5 (nx ?_)
   refine cd h (fun h => ?_) fun h => ?_
   refine ki (xi (si (bi (oi ?_))))
   let a6 : St := a5.p [(17, (vI x4)), (16, (.d (.sl 1 (p0.map cStr)))), (15, (vI x4)), (14, (.msl 7 1 0 b7_0.length b7_0.length))]
   refine st 4 a6 (vs (fun (y : (List UInt8)) => (.rp [(.s (bs y))])) h (fun y hy => vop_ia (l := p0) (f := cStr) (g := cStr) (k := .i64) hy (fun _ => rfl) (by kernel_rfl) (by kernel_rfl) (by kernel_rfl)) fun y2 h => ?_)
   let a7 : St := a6.p [(19, (vS y2)), (18, (.rp [(.s (bs y2))]))]
   refine st 1 a7 (vs (fun (y : (List UInt8)) => (.ptr 7 ((0 + (x4).toNat) * 1))) h (fun y hy => vop_iaE (l := b7_0) (k := .i64) hy (by kernel_rfl) (by kernel_rfl) (by kernel_rfl)) fun y3 h => ?_)
   refine sti_step (b := 7) (i := x4) (l := b7_0) (v := y2) (f := cStr) (u := (vS y2)) (T := fun y m => ⟨[(20, (.ptr 7 ((0 + (x4).toNat) * 1))), (19, (vS y2)), (18, (.rp [(.s (bs y2))])), (17, (vI x4)), (16, (.d (.sl 1 (p0.map cStr)))), (15, (vI x4)), (14, (.msl 7 1 0 m m)), (11, (vB (decide (x4 < (p0.length : Int))))), (10, (vI (p0.length : Int))), (9, (.d (.sl 1 (p0.map cStr)))), (8, (vI x4)), (0, (.d (.sl 1 (p0.map cStr)))), (3, (.msl 7 1 0 m m)), (4, (vI x4))], [(7, rowsV (y.map cStr))]⟩) h (by kernel_rfl) (by kernel_rfl) (by kernel_rfl) (by kernel_rfl) (fun y => (congrArg List.length ((fun _ => rfl) y)).trans rfl) (by kernel_rfl) (fun y => by kernel_rfl) ?_
   clear h; intro y4 h
   refine ni (bn (xi (oi ?_)))
   let a8 : St := ⟨[(4, (vI (IntKind.wrap .i64 (x4 + 1)))), (13, (vI (IntKind.wrap .i64 (x4 + 1)))), (12, (vI x4)), (20, (.ptr 7 ((0 + (x4).toNat) * 1))), (19, (vS y2)), (18, (.rp [(.s (bs y2))])), (17, (vI x4)), (16, (.d (.sl 1 (p0.map cStr)))), (15, (vI x4)), (14, (.msl 7 1 0 y4.length y4.length)), (11, (vB (decide (x4 < (p0.length : Int))))), (10, (vI (p0.length : Int))), (9, (.d (.sl 1 (p0.map cStr)))), (8, (vI x4)), (0, (.d (.sl 1 (p0.map cStr)))), (3, (.msl 7 1 0 y4.length y4.length)), (4, (vI x4))], [(7, rowsV (y4.map cStr))]⟩
   exact st 3 a8 (ni (loop_back (s' := stwToStringS_L0 p0 (IntKind.wrap .i64 (x4 + 1)) y4) (wr [] (es (es (es er_nil))) (br_rows (by kernel_rfl) br_nil)) (OK_wToStringS_L0 (IntKind.wrap .i64 (x4 + 1)) y4 _ h)))
   refine ei (te (te (bh (xi (so ?_)))))
   let a9 : St := a5.p [(2, (.msl 7 1 0 b7_0.length b7_0.length)), (21, (.msl 7 1 0 b7_0.length b7_0.length))]
   refine st 2 a9 (nx (ret_frz (n := 7) (sz := 1) (l := b7_0) (f := cStr) (s' := ⟨[(2, (.d (.sl 1 (b7_0.map cStr))))], []⟩) (by decide) (fun y => (congrArg List.length ((fun _ => rfl) y)).trans rfl) (by kernel_rfl) (⟨.inr ⟨b7_0.length, b7_0.length, by kernel_rfl, lms b7_0 _, by kernel_rfl⟩, trivial⟩) (trivial) (ri ?_)))
   injection h with h; subst h
   exact ret1_step (v := (.d (.sl 1 (b7_0.map cStr)))) (by kernel_rfl) (by kernel_rfl) (by kernel_rfl)
theorem OK_wToStringS_L0 (p0 : (List (List UInt8))) (x4 : Int) (b7_0 : (List (List UInt8))) (r : (List (List UInt8))) (h : wToStringS_L0 p0 x4 b7_0 = some r) : avc Try.prog acwToStringS_L0 (qwToStringS_1 r) (stwToStringS_L0 p0 x4 b7_0) := (OKs_wToStringS_L0 p0) x4 b7_0 r h
theorem OK_wToStringS (p0 : (List (List UInt8))) : FOk Try.prog 95 [(.d (.sl 1 (p0.map cStr)))] (fun y => (.d (.sl 1 (y.map cStr)))) (wToStringS p0) := by
 intro r h
 rw [wToStringS] at h
 refine acalls_of_fn trwToStringS (Nat.le_of_ble_eq_true rfl) (by simp) ?_
 show avc Try.prog acwToStringS (qwToStringS _) ⟨[(0, (.d (.sl 1 (p0.map cStr))))], []⟩
 delta acwToStringS
 refine so ?_
 let a0 : St := ⟨[(2, (.nil 1)), (0, (.d (.sl 1 (p0.map cStr))))], []⟩
 refine st 1 a0 (nx (so ?_))
 let a1 : St := a0.p [(5, (.d (.sl 1 (p0.map cStr))))]
 refine st 1 a1 (ps (vI (p0.length : Int)) (vop_len (sz := 1) (l := p0) (f := cStr) (by kernel_rfl) (by kernel_rfl)) ?_)
 refine mks_step (k := .i64) (k' := .i64) (z := ([] : (List UInt8))) (f := cStr) (S' := fun y => ⟨(7, (.msl 7 1 0 y.length y.length)) :: (6, (vI (p0.length : Int))) :: a1.env, [(7, rowsV (y.map cStr))]⟩) h (by kernel_rfl) (by kernel_rfl) (by kernel_rfl) (by kernel_rfl) (by kernel_rfl) (fun y => by kernel_rfl) ?_
 clear h; intro y1 h
 let a2 : St := ⟨(3, (.msl 7 1 0 y1.length y1.length)) :: (7, (.msl 7 1 0 y1.length y1.length)) :: (6, (vI (p0.length : Int))) :: a1.env, [(7, rowsV (y1.map cStr))]⟩
 refine st 1 a2 (nx (si (so ?_)))
 let a3 : St := a2.p [(4, (vI 0))]
 exact st 1 a3 (nx (bi (loop_go (s' := stwToStringS_L0 p0 0 y1) (wr [] (es (es (es er_nil))) (br_rows (by kernel_rfl) br_nil)) (OK_wToStringS_L0 p0 0 y1 _ h))))
theorem OK_wToStmt (p0 : GStmt) : FOk Try.prog 35 [(vGStmt p0)] (fun y => (vGStmt y)) (wToStmt p0) := by
 intro r h
 rw [wToStmt] at h
 refine acalls_of_fn trwToStmt (Nat.le_of_ble_eq_true rfl) (by simp) ?_
 show avc Try.prog acwToStmt (qwToStmt _) ⟨[(0, (vGStmt p0))], []⟩
 delta acwToStmt
 refine so ?_
 let a0 : St := ⟨[(2, (.ptr 2 0)), (1, (.ptr 1 0)), (0, (vGStmt p0))], [(2, [(vI 0), (vB false), (.nil 13), (.nil 3), (.nil 10), (.nil 11), (vI 0), (vS []), (.nil 1), (.nil 1), (.nil 10), (.nil 10)]), (1, bGStmt p0)]⟩
 refine st 2 a0 (nx (so ?_))
 let a1 : St := ⟨(3, (.ptr 3 0)) :: a0.env, [(3, [(vI 0), (vB false), (.nil 13), (.nil 3), (.nil 10), (.nil 11), (vI 0), (vS []), (.nil 1), (.nil 1), (.nil 10), (.nil 10)]), (2, [(vI 0), (vB false), (.nil 13), (.nil 3), (.nil 10), (.nil 11), (vI 0), (vS []), (.nil 1), (.nil 1), (.nil 10), (.nil 10)]), (1, bGStmt p0)]⟩
 refine st 1 a1 (nx (so ?_))
 let a2 : St := ⟨(6, (.ptr 3 0)) :: (5, (vI p0.kind)) :: (4, (.ptr 1 0)) :: a1.env, [(3, [(vI p0.kind), (vB false), (.nil 13), (.nil 3), (.nil 10), (.nil 11), (vI 0), (vS []), (.nil 1), (.nil 1), (.nil 10), (.nil 10)]), (2, [(vI 0), (vB false), (.nil 13), (.nil 3), (.nil 10), (.nil 11), (vI 0), (vS []), (.nil 1), (.nil 1), (.nil 10), (.nil 10)]), (1, bGStmt p0)]⟩
 refine st 4 a2 (nx (so ?_))
 let a3 : St := a2.p [(8, (vGQuery p0.query)), (7, (.ptr 1 1))]
 refine st 2 a3 (cs h (OK_wToQuery p0.query) fun y1 h => ?_)
 let a4 : St := ⟨(10, (.ptr 3 1)) :: (9, (vGQuery y1)) :: a3.env, [(3, [(vI p0.kind), (vB y1.distinct), (.d (.sl 13 (y1.items.map cGItem))), (.d (.sl 3 (y1.from_.map cGSource))), (.d (.sl 10 (y1.where_.map cGExpr))), (.d (.sl 11 (y1.order.map cGSortKey))), (vI y1.limit), (vS []), (.nil 1), (.nil 1), (.nil 10), (.nil 10)]), (2, [(vI 0), (vB false), (.nil 13), (.nil 3), (.nil 10), (.nil 11), (vI 0), (vS []), (.nil 1), (.nil 1), (.nil 10), (.nil 10)]), (1, bGStmt p0)]⟩
 refine st 2 a4 (nx (so ?_))
 let a5 : St := ⟨(13, (.ptr 3 7)) :: (12, (vS p0.table)) :: (11, (.ptr 1 7)) :: a4.env, [(3, [(vI p0.kind), (vB y1.distinct), (.d (.sl 13 (y1.items.map cGItem))), (.d (.sl 3 (y1.from_.map cGSource))), (.d (.sl 10 (y1.where_.map cGExpr))), (.d (.sl 11 (y1.order.map cGSortKey))), (vI y1.limit), (vS p0.table), (.nil 1), (.nil 1), (.nil 10), (.nil 10)]), (2, [(vI 0), (vB false), (.nil 13), (.nil 3), (.nil 10), (.nil 11), (vI 0), (vS []), (.nil 1), (.nil 1), (.nil 10), (.nil 10)]), (1, bGStmt p0)]⟩
 refine st 4 a5 (nx (so ?_))
 let a6 : St := a5.p [(15, (.d (.sl 1 (p0.rows.map (cSl 10 cGExpr))))), (14, (.ptr 1 8))]
 refine st 2 a6 (cs h (OK_wToExprSS p0.rows) fun y2 h => ?_)
 let a7 : St := ⟨(17, (.ptr 3 8)) :: (16, (.d (.sl 1 (y2.map (cSl 10 cGExpr))))) :: a6.env, [(3, [(vI p0.kind), (vB y1.distinct), (.d (.sl 13 (y1.items.map cGItem))), (.d (.sl 3 (y1.from_.map cGSource))), (.d (.sl 10 (y1.where_.map cGExpr))), (.d (.sl 11 (y1.order.map cGSortKey))), (vI y1.limit), (vS p0.table), (.d (.sl 1 (y2.map (cSl 10 cGExpr)))), (.nil 1), (.nil 10), (.nil 10)]), (2, [(vI 0), (vB false), (.nil 13), (.nil 3), (.nil 10), (.nil 11), (vI 0), (vS []), (.nil 1), (.nil 1), (.nil 10), (.nil 10)]), (1, bGStmt p0)]⟩
 refine st 2 a7 (nx (so ?_))
 let a8 : St := a7.p [(19, (.d (.sl 1 (p0.cols.map cStr)))), (18, (.ptr 1 9))]
 refine st 2 a8 (cs h (OK_wToStringS p0.cols) fun y3 h => ?_)
 let a9 : St := ⟨(21, (.ptr 3 9)) :: (20, (.d (.sl 1 (y3.map cStr)))) :: a8.env, [(3, [(vI p0.kind), (vB y1.distinct), (.d (.sl 13 (y1.items.map cGItem))), (.d (.sl 3 (y1.from_.map cGSource))), (.d (.sl 10 (y1.where_.map cGExpr))), (.d (.sl 11 (y1.order.map cGSortKey))), (vI y1.limit), (vS p0.table), (.d (.sl 1 (y2.map (cSl 10 cGExpr)))), (.d (.sl 1 (y3.map cStr))), (.nil 10), (.nil 10)]), (2, [(vI 0), (vB false), (.nil 13), (.nil 3), (.nil 10), (.nil 11), (vI 0), (vS []), (.nil 1), (.nil 1), (.nil 10), (.nil 10)]), (1, bGStmt p0)]⟩
 refine st 2 a9 (nx (so ?_))
 let a10 : St := a9.p [(23, (.d (.sl 10 (p0.sets.map cGExpr)))), (22, (.ptr 1 10))]
 refine st 2 a10 (cs h (OK_wToExprS p0.sets) fun y4 h => ?_)
 let a11 : St := ⟨(25, (.ptr 3 10)) :: (24, (.d (.sl 10 (y4.map cGExpr)))) :: a10.env, [(3, [(vI p0.kind), (vB y1.distinct), (.d (.sl 13 (y1.items.map cGItem))), (.d (.sl 3 (y1.from_.map cGSource))), (.d (.sl 10 (y1.where_.map cGExpr))), (.d (.sl 11 (y1.order.map cGSortKey))), (vI y1.limit), (vS p0.table), (.d (.sl 1 (y2.map (cSl 10 cGExpr)))), (.d (.sl 1 (y3.map cStr))), (.d (.sl 10 (y4.map cGExpr))), (.nil 10)]), (2, [(vI 0), (vB false), (.nil 13), (.nil 3), (.nil 10), (.nil 11), (vI 0), (vS []), (.nil 1), (.nil 1), (.nil 10), (.nil 10)]), (1, bGStmt p0)]⟩
 refine st 2 a11 (nx (so ?_))
 let a12 : St := a11.p [(27, (.d (.sl 10 (p0.where_.map cGExpr)))), (26, (.ptr 1 11))]
 refine st 2 a12 (cs h (OK_wToExprS p0.where_) fun y5 h => ?_)
 let a13 : St := ⟨(29, (.ptr 3 11)) :: (28, (.d (.sl 10 (y5.map cGExpr)))) :: a12.env, [(3, [(vI p0.kind), (vB y1.distinct), (.d (.sl 13 (y1.items.map cGItem))), (.d (.sl 3 (y1.from_.map cGSource))), (.d (.sl 10 (y1.where_.map cGExpr))), (.d (.sl 11 (y1.order.map cGSortKey))), (vI y1.limit), (vS p0.table), (.d (.sl 1 (y2.map (cSl 10 cGExpr)))), (.d (.sl 1 (y3.map cStr))), (.d (.sl 10 (y4.map cGExpr))), (.d (.sl 10 (y5.map cGExpr)))]), (2, [(vI 0), (vB false), (.nil 13), (.nil 3), (.nil 10), (.nil 11), (vI 0), (vS []), (.nil 1), (.nil 1), (.nil 10), (.nil 10)]), (1, bGStmt p0)]⟩
 refine st 2 a13 (nx (so ?_))
 let a14 : St := ⟨(30, (vGStmt (GStmt.mk p0.kind y1 p0.table y2 y3 y4 y5))) :: a13.env, [(3, [(vI p0.kind), (vB y1.distinct), (.d (.sl 13 (y1.items.map cGItem))), (.d (.sl 3 (y1.from_.map cGSource))), (.d (.sl 10 (y1.where_.map cGExpr))), (.d (.sl 11 (y1.order.map cGSortKey))), (vI y1.limit), (vS p0.table), (.d (.sl 1 (y2.map (cSl 10 cGExpr)))), (.d (.sl 1 (y3.map cStr))), (.d (.sl 10 (y4.map cGExpr))), (.d (.sl 10 (y5.map cGExpr)))]), (2, bGStmt (GStmt.mk p0.kind y1 p0.table y2 y3 y4 y5)), (1, bGStmt p0)]⟩
 refine st 2 a14 (nx (ri ?_))
 injection h with h; subst h
 exact ret1_step (v := (vGStmt (GStmt.mk p0.kind y1 p0.table y2 y3 y4 y5))) (by kernel_rfl) (by kernel_rfl) (by kernel_rfl)
theorem OK_wFnExactStmtDepth (p0 : GStmt) : FOk Try.prog 8 [(vGStmt p0)] (fun y => (vB y)) (wFnExactStmtDepth p0) := by
 intro r h
 rw [wFnExactStmtDepth] at h
 refine acalls_of_fn trwFnExactStmtDepth (Nat.le_of_ble_eq_true rfl) (by simp) ?_
 show avc Try.prog acwFnExactStmtDepth (qwFnExactStmtDepth _) ⟨[(0, (vGStmt p0))], []⟩
 delta acwFnExactStmtDepth
 refine so ?_
 let a0 : St := ⟨[(2, (vB false)), (1, (.ptr 1 0)), (0, (vGStmt p0))], [(1, bGStmt p0)]⟩
 refine st 2 a0 (nx (so ?_))
 let a1 : St := a0.p [(3, (vI 1048576))]
 refine st 1 a1 (nx (so ?_))
 let a2 : St := a1.p [(8, (vI 1048576)), (7, (vGStmt p0))]
 refine st 2 a2 (cs h (OK_wSzStmt p0 1048576) fun y1 h => ?_)
 let a3 : St := a2.p [(3, (vI y1)), (9, (vI y1))]
 refine st 1 a3 (nx (si (so ?_)))
 let a4 : St := a3.p [(11, (vB (decide (y1 < 0)))), (10, (vI y1))]
 refine st 2 a4 (nx ?_)
 refine cd h (fun h => ?_) fun h => ?_
 refine so ?_
 let a5 : St := a4.p [(2, (vB true))]
 refine st 1 a5 (nx (ri (tr ?_)))
 injection h with h; subst h
 exact ret1_step (v := (vB true)) (by kernel_rfl) (by kernel_rfl) (by kernel_rfl)
 refine ki (xi (so ?_))
 let a6 : St := a4.p [(12, (vGStmt p0))]
 refine st 1 a6 (cs h (OK_wToStmt p0) fun y2 h => (cs h (OK_sStmtDepth y2) fun y3 h => ?_))
 let a7 : St := a6.p [(4, (vI y3)), (14, (vI y3)), (13, (vGStmt y2))]
 refine st 1 a7 (nx (so ?_))
 let a8 : St := a7.p [(15, (vGStmt p0))]
 refine st 1 a8 (cs h (OK_wToStmt p0) fun y4 h => ?_)
 let a9 : St := ⟨(5, (.ptr 5 0)) :: (16, (vGStmt y4)) :: a8.env, [(5, bGStmt y4), (1, bGStmt p0)]⟩
 refine st 2 a9 (nx (so ?_))
 let a10 : St := a9.p [(17, (vGStmt y4))]
 refine st 1 a10 (cs h (OK_iStmtDepth y4) fun y5 h => ?_)
 let a11 : St := a10.p [(6, (vI y5)), (18, (vI y5))]
 refine st 1 a11 (nx (si (so ?_)))
 let a12 : St := a11.p [(21, (vB (!decide (y5 = y3)))), (20, (vI y3)), (19, (vI y5))]
 refine st 3 a12 (nx ?_)
 refine cd h (fun h => ?_) fun h => ?_
 refine so ?_
 let a13 : St := a12.p [(2, (vB false))]
 refine st 1 a13 (nx (ri (tr ?_)))
 injection h with h; subst h
 exact ret1_step (v := (vB false)) (by kernel_rfl) (by kernel_rfl) (by kernel_rfl)
 refine ki (xi (si (si (dops_in ?_))))
 let a14 : St := a12.p [(23, (vGStmt p0)), (22, (vGStmt y4))]
 refine dsts_ok 2 (s' := a14) (by kernel_rfl) (dcall_step (m := wToStmt p0) (args := [(vGStmt p0)]) (v' := (fun y => (vGStmt y))) h (OK_wToStmt p0) (by kernel_rfl) (by kernel_rfl) (fun _ => rfl) ?_)
 clear h; intro y6 h
 refine dcall_step (m := wEqStmt y4 y6) (args := [(vGStmt y4), (vGStmt y6)]) (v' := (fun y => (vB y))) h (OK_wEqStmt y4 y6) (by kernel_rfl) (by kernel_rfl) (fun _ => rfl) ?_
 clear h; intro y7 h
 let a15 : St := a14.p [(26, (vB (!y7))), (25, (vB y7)), (24, (vGStmt y6))]
 refine dsts_ok 1 (s' := a15) (by kernel_rfl) (dnil_in (by kernel_rfl) (by kernel_rfl) (xi ?_))
 refine cd h (fun h => ?_) fun h => ?_
 refine so ?_
 let a16 : St := a15.p [(2, (vB false))]
 refine st 1 a16 (nx (ri (tr ?_)))
 injection h with h; subst h
 exact ret1_step (v := (vB false)) (by kernel_rfl) (by kernel_rfl) (by kernel_rfl)
 refine ki (xi (so ?_))
 let a17 : St := a15.p [(2, (vB true))]
 refine st 1 a17 (nx (ri ?_))
 injection h with h; subst h
 exact ret1_step (v := (vB true)) (by kernel_rfl) (by kernel_rfl) (by kernel_rfl)
theorem law_wFnExactStmtDepth (hp : ∀ (x0 : GStmt) (_ : okGStmt x0), wFnExactStmtDepth x0 = some true) (ls : List (List D)) (hw : WtA Try.prog [61] ls) (hok : ∀ l ∈ ls, ∀ x ∈ l, OkD x) : ACalls Try.prog 8 (argsV Try.prog [61] ls) [] fun x _ => x = .d (.b true) := by
  rcases hw with _ | ⟨h0, hw⟩
  cases hw
  obtain ⟨x0, rfl⟩ := de61 h0
  have a0 : argV Try.prog 61 (cGStmt x0) = (vGStmt x0) := by kernel_rfl
  have k0 : ∀ d ∈ cGStmt x0, OkD d := hok _ (by simp)
  simp only [argsV, a0]
  exact OK_wFnExactStmtDepth x0 true (hp x0 (koGStmt x0 k0))
end Go.Proofs.Ytdiknmniclancaa
