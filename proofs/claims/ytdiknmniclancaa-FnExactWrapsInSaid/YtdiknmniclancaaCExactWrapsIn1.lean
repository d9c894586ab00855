/- That the code computes these functions (printed by a program). -/
import Derived.Test.YtdiknmniclancaaCExactWrapsIn0
namespace Go.Proofs.Ytdiknmniclancaa
open Go Go.RowKit Go.Ab
theorem OKs_sL7Exprs_J1 (p0 : GQuery) : (∀ (x4 : Int) (x3_4 : (List GExpr)) (r : (List GExpr)), sL7Exprs_J1 x4 p0 x3_4 = some r → avc Try.prog acsL7Exprs_J1 (qsL7Exprs_2 r) (stsL7Exprs_J1 x4 p0 x3_4)) ∧ (∀ (x3 : (List GExpr)) (x4 : Int) (r : (List GExpr)), sL7Exprs_L0 p0 x3 x4 = some r → avc Try.prog acsL7Exprs_L0 (qsL7Exprs_1 r) (stsL7Exprs_L0 p0 x3 x4)) := by
  refine sL7Exprs_J1.mutual_partial_correctness p0 (fun x4 x3_4 r => avc Try.prog acsL7Exprs_J1 (qsL7Exprs_2 r) (stsL7Exprs_J1 x4 p0 x3_4)) (fun x3 x4 r => avc Try.prog acsL7Exprs_L0 (qsL7Exprs_1 r) (stsL7Exprs_L0 p0 x3 x4)) ?_ ?_
  · intro F_sL7Exprs_L0 OK_sL7Exprs_L0 x4 x3_4 r h
    delta acsL7Exprs_J1
    refine ops_in ?_
    refine sts_ok 3 (s' := ⟨(4, (.d (.i .i64 (IntKind.wrap .i64 (x4 + 1))))) :: (14, (.d (.i .i64 (IntKind.wrap .i64 (x4 + 1))))) :: (13, (.d (.i .i64 x4))) :: (stsL7Exprs_J1 x4 p0 x3_4).env, (stsL7Exprs_J1 x4 p0 x3_4).bx⟩) (by kernel_rfl) ?_
    refine nil_in ?_
    exact loop_back (s' := stsL7Exprs_L0 p0 x3_4 (IntKind.wrap .i64 (x4 + 1))) (wk_ren [(3, .old 3)] (by kernel_rfl) (er_cons (vr_same (by kernel_rfl) (by kernel_rfl)) (er_cons (vr_old (t := 3) (by kernel_rfl) (by kernel_rfl)) (er_cons (vr_same (by kernel_rfl) (by kernel_rfl)) (er_nil)))) (br_same (by kernel_rfl) (by kernel_rfl) (br_nil))) (OK_sL7Exprs_L0 x3_4 (IntKind.wrap .i64 (x4 + 1)) _ h)
  · intro F_sL7Exprs_J1 OK_sL7Exprs_J1 x3 x4 r h
    delta acsL7Exprs_L0
    refine loop_unroll ?_
    refine seq_in ?_
    refine seq_in ?_
    refine ops_in ?_
    refine sts_ok 3 (s' := ⟨(10, (.d (.sl 13 (p0.items.map cGItem)))) :: (9, (.ptr 1 1)) :: (8, (.d (.i .i64 x4))) :: (stsL7Exprs_L0 p0 x3 x4).env, (stsL7Exprs_L0 p0 x3 x4).bx⟩) (by kernel_rfl) ?_
    refine p_step (v' := (.d (.i .i64 (p0.items.length : Int)))) rfl rfl (vop_len (sz := 13) (l := p0.items) (f := cGItem) (by kernel_rfl) (by kernel_rfl)) ?_
    refine sts_ok 1 (s' := ⟨(12, (.d (.b (decide (x4 < (p0.items.length : Int)))))) :: (11, (.d (.i .i64 (p0.items.length : Int)))) :: (10, (.d (.sl 13 (p0.items.map cGItem)))) :: (9, (.ptr 1 1)) :: (8, (.d (.i .i64 x4))) :: (stsL7Exprs_L0 p0 x3 x4).env, (stsL7Exprs_L0 p0 x3 x4).bx⟩) (by kernel_rfl) ?_
    refine nil_in ?_
    refine next_in ?_
    refine cond_step h (by kernel_rfl) ?_ ?_
    · clear h; intro h
      refine skip_in ?_
      refine next_in ?_
      refine seq_in ?_
      refine block_in ?_
      refine seq_in ?_
      refine ops_in ?_
      refine sts_ok 3 (s' := ⟨(17, (.d (.i .i64 x4))) :: (16, (.d (.sl 13 (p0.items.map cGItem)))) :: (15, (.ptr 1 1)) :: (12, (.d (.b (decide (x4 < (p0.items.length : Int)))))) :: (11, (.d (.i .i64 (p0.items.length : Int)))) :: (10, (.d (.sl 13 (p0.items.map cGItem)))) :: (9, (.ptr 1 1)) :: (8, (.d (.i .i64 x4))) :: (stsL7Exprs_L0 p0 x3 x4).env, (stsL7Exprs_L0 p0 x3 x4).bx⟩) (by kernel_rfl) ?_
      refine v_step (m := idx p0.items x4) (v' := fun y => (.rp [(.b y.star), (.s (bs y.qual)), (.i .i64 y.expr.kind), (.i .i64 y.expr.op), (.b y.expr.not_), (.i .i64 y.expr.value.kind), (.i .i64 y.expr.value.num), (.s (bs y.expr.value.text)), (.s (bs y.expr.qual)), (.s (bs y.expr.name)), (.sl 10 (y.expr.kids.map cGExpr)), (.sl 6 (y.expr.sub.map cGQuery)), (.s (bs y.as_))])) h rfl rfl (fun y hy => vop_ia (l := p0.items) (f := cGItem) (g := oGItem) (k := .i64) hy cGItem_eq (by kernel_rfl) (by kernel_rfl) (by kernel_rfl)) ?_
      clear h; intro y1 h
      refine sts_ok 3 (s' := ⟨(21, (.d (.b (!y1.star)))) :: (20, (.d (.b y1.star))) :: (19, (.rp [(.b y1.star), (.s (bs y1.qual)), (.i .i64 y1.expr.kind), (.i .i64 y1.expr.op), (.b y1.expr.not_), (.i .i64 y1.expr.value.kind), (.i .i64 y1.expr.value.num), (.s (bs y1.expr.value.text)), (.s (bs y1.expr.qual)), (.s (bs y1.expr.name)), (.sl 10 (y1.expr.kids.map cGExpr)), (.sl 6 (y1.expr.sub.map cGQuery)), (.s (bs y1.as_))])) :: (18, (.rp [(.b y1.star), (.s (bs y1.qual)), (.i .i64 y1.expr.kind), (.i .i64 y1.expr.op), (.b y1.expr.not_), (.i .i64 y1.expr.value.kind), (.i .i64 y1.expr.value.num), (.s (bs y1.expr.value.text)), (.s (bs y1.expr.qual)), (.s (bs y1.expr.name)), (.sl 10 (y1.expr.kids.map cGExpr)), (.sl 6 (y1.expr.sub.map cGQuery)), (.s (bs y1.as_))])) :: (17, (.d (.i .i64 x4))) :: (16, (.d (.sl 13 (p0.items.map cGItem)))) :: (15, (.ptr 1 1)) :: (12, (.d (.b (decide (x4 < (p0.items.length : Int)))))) :: (11, (.d (.i .i64 (p0.items.length : Int)))) :: (10, (.d (.sl 13 (p0.items.map cGItem)))) :: (9, (.ptr 1 1)) :: (8, (.d (.i .i64 x4))) :: (stsL7Exprs_L0 p0 x3 x4).env, (stsL7Exprs_L0 p0 x3 x4).bx⟩) (by kernel_rfl) ?_
      refine nil_in ?_
      refine next_in ?_
      refine cond_step h (by kernel_rfl) ?_ ?_
      · clear h; intro h
        refine ops_in ?_
        refine sts_ok 4 (s' := ⟨(25, (.d (.i .i64 x4))) :: (24, (.d (.sl 13 (p0.items.map cGItem)))) :: (23, (.ptr 1 1)) :: (22, (.osl 3 49 10 (x3.map cGExpr))) :: (21, (.d (.b (!y1.star)))) :: (20, (.d (.b y1.star))) :: (19, (.rp [(.b y1.star), (.s (bs y1.qual)), (.i .i64 y1.expr.kind), (.i .i64 y1.expr.op), (.b y1.expr.not_), (.i .i64 y1.expr.value.kind), (.i .i64 y1.expr.value.num), (.s (bs y1.expr.value.text)), (.s (bs y1.expr.qual)), (.s (bs y1.expr.name)), (.sl 10 (y1.expr.kids.map cGExpr)), (.sl 6 (y1.expr.sub.map cGQuery)), (.s (bs y1.as_))])) :: (18, (.rp [(.b y1.star), (.s (bs y1.qual)), (.i .i64 y1.expr.kind), (.i .i64 y1.expr.op), (.b y1.expr.not_), (.i .i64 y1.expr.value.kind), (.i .i64 y1.expr.value.num), (.s (bs y1.expr.value.text)), (.s (bs y1.expr.qual)), (.s (bs y1.expr.name)), (.sl 10 (y1.expr.kids.map cGExpr)), (.sl 6 (y1.expr.sub.map cGQuery)), (.s (bs y1.as_))])) :: (17, (.d (.i .i64 x4))) :: (16, (.d (.sl 13 (p0.items.map cGItem)))) :: (15, (.ptr 1 1)) :: (12, (.d (.b (decide (x4 < (p0.items.length : Int)))))) :: (11, (.d (.i .i64 (p0.items.length : Int)))) :: (10, (.d (.sl 13 (p0.items.map cGItem)))) :: (9, (.ptr 1 1)) :: (8, (.d (.i .i64 x4))) :: (stsL7Exprs_L0 p0 x3 x4).env, (stsL7Exprs_L0 p0 x3 x4).bx⟩) (by kernel_rfl) ?_
        refine v_step (m := idx p0.items x4) (v' := fun y => (.rp [(.b y.star), (.s (bs y.qual)), (.i .i64 y.expr.kind), (.i .i64 y.expr.op), (.b y.expr.not_), (.i .i64 y.expr.value.kind), (.i .i64 y.expr.value.num), (.s (bs y.expr.value.text)), (.s (bs y.expr.qual)), (.s (bs y.expr.name)), (.sl 10 (y.expr.kids.map cGExpr)), (.sl 6 (y.expr.sub.map cGQuery)), (.s (bs y.as_))])) h rfl rfl (fun y hy => vop_ia (l := p0.items) (f := cGItem) (g := oGItem) (k := .i64) hy cGItem_eq (by kernel_rfl) (by kernel_rfl) (by kernel_rfl)) ?_
        clear h; intro y2 h
        refine sts_ok 2 (s' := ⟨(28, (vGExpr y2.expr)) :: (27, (.rp [(.i .i64 y2.expr.kind), (.i .i64 y2.expr.op), (.b y2.expr.not_), (.i .i64 y2.expr.value.kind), (.i .i64 y2.expr.value.num), (.s (bs y2.expr.value.text)), (.s (bs y2.expr.qual)), (.s (bs y2.expr.name)), (.sl 10 (y2.expr.kids.map cGExpr)), (.sl 6 (y2.expr.sub.map cGQuery)), (.s (bs y2.as_))])) :: (26, (.rp [(.b y2.star), (.s (bs y2.qual)), (.i .i64 y2.expr.kind), (.i .i64 y2.expr.op), (.b y2.expr.not_), (.i .i64 y2.expr.value.kind), (.i .i64 y2.expr.value.num), (.s (bs y2.expr.value.text)), (.s (bs y2.expr.qual)), (.s (bs y2.expr.name)), (.sl 10 (y2.expr.kids.map cGExpr)), (.sl 6 (y2.expr.sub.map cGQuery)), (.s (bs y2.as_))])) :: (25, (.d (.i .i64 x4))) :: (24, (.d (.sl 13 (p0.items.map cGItem)))) :: (23, (.ptr 1 1)) :: (22, (.osl 3 49 10 (x3.map cGExpr))) :: (21, (.d (.b (!y1.star)))) :: (20, (.d (.b y1.star))) :: (19, (.rp [(.b y1.star), (.s (bs y1.qual)), (.i .i64 y1.expr.kind), (.i .i64 y1.expr.op), (.b y1.expr.not_), (.i .i64 y1.expr.value.kind), (.i .i64 y1.expr.value.num), (.s (bs y1.expr.value.text)), (.s (bs y1.expr.qual)), (.s (bs y1.expr.name)), (.sl 10 (y1.expr.kids.map cGExpr)), (.sl 6 (y1.expr.sub.map cGQuery)), (.s (bs y1.as_))])) :: (18, (.rp [(.b y1.star), (.s (bs y1.qual)), (.i .i64 y1.expr.kind), (.i .i64 y1.expr.op), (.b y1.expr.not_), (.i .i64 y1.expr.value.kind), (.i .i64 y1.expr.value.num), (.s (bs y1.expr.value.text)), (.s (bs y1.expr.qual)), (.s (bs y1.expr.name)), (.sl 10 (y1.expr.kids.map cGExpr)), (.sl 6 (y1.expr.sub.map cGQuery)), (.s (bs y1.as_))])) :: (17, (.d (.i .i64 x4))) :: (16, (.d (.sl 13 (p0.items.map cGItem)))) :: (15, (.ptr 1 1)) :: (12, (.d (.b (decide (x4 < (p0.items.length : Int)))))) :: (11, (.d (.i .i64 (p0.items.length : Int)))) :: (10, (.d (.sl 13 (p0.items.map cGItem)))) :: (9, (.ptr 1 1)) :: (8, (.d (.i .i64 x4))) :: (stsL7Exprs_L0 p0 x3 x4).env, (stsL7Exprs_L0 p0 x3 x4).bx⟩) (by kernel_rfl) ?_
        refine bsl_step (l := ([y2.expr] : List GExpr)) (f := cGExpr) (g := oGExpr) (by kernel_rfl) cGExpr_eq (by kernel_rfl) ?_
        refine app_step (t := 3) (l := x3) (m := ([y2.expr] : List GExpr)) (f := cGExpr) (S' := fun y => ⟨[(30, (.osl 30 49 10 (y.map cGExpr))), (29, (.osl 29 49 10 (([y2.expr] : List GExpr).map cGExpr))), (28, (vGExpr y2.expr)), (27, (.rp [(.i .i64 y2.expr.kind), (.i .i64 y2.expr.op), (.b y2.expr.not_), (.i .i64 y2.expr.value.kind), (.i .i64 y2.expr.value.num), (.s (bs y2.expr.value.text)), (.s (bs y2.expr.qual)), (.s (bs y2.expr.name)), (.sl 10 (y2.expr.kids.map cGExpr)), (.sl 6 (y2.expr.sub.map cGQuery)), (.s (bs y2.as_))])), (26, (.rp [(.b y2.star), (.s (bs y2.qual)), (.i .i64 y2.expr.kind), (.i .i64 y2.expr.op), (.b y2.expr.not_), (.i .i64 y2.expr.value.kind), (.i .i64 y2.expr.value.num), (.s (bs y2.expr.value.text)), (.s (bs y2.expr.qual)), (.s (bs y2.expr.name)), (.sl 10 (y2.expr.kids.map cGExpr)), (.sl 6 (y2.expr.sub.map cGQuery)), (.s (bs y2.as_))])), (25, (.d (.i .i64 x4))), (24, (.d (.sl 13 (p0.items.map cGItem)))), (23, (.ptr 1 1)), (22, (.d (.sl 10 (x3.map cGExpr)))), (21, (.d (.b (!y1.star)))), (20, (.d (.b y1.star))), (19, (.rp [(.b y1.star), (.s (bs y1.qual)), (.i .i64 y1.expr.kind), (.i .i64 y1.expr.op), (.b y1.expr.not_), (.i .i64 y1.expr.value.kind), (.i .i64 y1.expr.value.num), (.s (bs y1.expr.value.text)), (.s (bs y1.expr.qual)), (.s (bs y1.expr.name)), (.sl 10 (y1.expr.kids.map cGExpr)), (.sl 6 (y1.expr.sub.map cGQuery)), (.s (bs y1.as_))])), (18, (.rp [(.b y1.star), (.s (bs y1.qual)), (.i .i64 y1.expr.kind), (.i .i64 y1.expr.op), (.b y1.expr.not_), (.i .i64 y1.expr.value.kind), (.i .i64 y1.expr.value.num), (.s (bs y1.expr.value.text)), (.s (bs y1.expr.qual)), (.s (bs y1.expr.name)), (.sl 10 (y1.expr.kids.map cGExpr)), (.sl 6 (y1.expr.sub.map cGQuery)), (.s (bs y1.as_))])), (17, (.d (.i .i64 x4))), (16, (.d (.sl 13 (p0.items.map cGItem)))), (15, (.ptr 1 1)), (12, (.d (.b (decide (x4 < (p0.items.length : Int)))))), (11, (.d (.i .i64 (p0.items.length : Int)))), (10, (.d (.sl 13 (p0.items.map cGItem)))), (9, (.ptr 1 1)), (8, (.d (.i .i64 x4))), (1, (.ptr 1 0)), (3, (.d (.sl 10 (x3.map cGExpr)))), (4, (.d (.i .i64 x4)))], [(1, [(.d (.b p0.distinct)), (.d (.sl 13 (p0.items.map cGItem))), (.d (.sl 3 (p0.from_.map cGSource))), (.d (.sl 10 (p0.where_.map cGExpr))), (.d (.sl 11 (p0.order.map cGSortKey))), (.d (.i .i64 p0.limit))])]⟩) h (by kernel_rfl) (by kernel_rfl) (by kernel_rfl) (by kernel_rfl) (fun y => by kernel_rfl) ?_
        clear h; intro y3 h
        refine sts_ok 1 (s' := ⟨[(3, (.osl 3 49 10 (y3.map cGExpr))), (30, (.d (.sl 10 (y3.map cGExpr)))), (29, (.osl 29 49 10 (([y2.expr] : List GExpr).map cGExpr))), (28, (vGExpr y2.expr)), (27, (.rp [(.i .i64 y2.expr.kind), (.i .i64 y2.expr.op), (.b y2.expr.not_), (.i .i64 y2.expr.value.kind), (.i .i64 y2.expr.value.num), (.s (bs y2.expr.value.text)), (.s (bs y2.expr.qual)), (.s (bs y2.expr.name)), (.sl 10 (y2.expr.kids.map cGExpr)), (.sl 6 (y2.expr.sub.map cGQuery)), (.s (bs y2.as_))])), (26, (.rp [(.b y2.star), (.s (bs y2.qual)), (.i .i64 y2.expr.kind), (.i .i64 y2.expr.op), (.b y2.expr.not_), (.i .i64 y2.expr.value.kind), (.i .i64 y2.expr.value.num), (.s (bs y2.expr.value.text)), (.s (bs y2.expr.qual)), (.s (bs y2.expr.name)), (.sl 10 (y2.expr.kids.map cGExpr)), (.sl 6 (y2.expr.sub.map cGQuery)), (.s (bs y2.as_))])), (25, (.d (.i .i64 x4))), (24, (.d (.sl 13 (p0.items.map cGItem)))), (23, (.ptr 1 1)), (22, (.d (.sl 10 (x3.map cGExpr)))), (21, (.d (.b (!y1.star)))), (20, (.d (.b y1.star))), (19, (.rp [(.b y1.star), (.s (bs y1.qual)), (.i .i64 y1.expr.kind), (.i .i64 y1.expr.op), (.b y1.expr.not_), (.i .i64 y1.expr.value.kind), (.i .i64 y1.expr.value.num), (.s (bs y1.expr.value.text)), (.s (bs y1.expr.qual)), (.s (bs y1.expr.name)), (.sl 10 (y1.expr.kids.map cGExpr)), (.sl 6 (y1.expr.sub.map cGQuery)), (.s (bs y1.as_))])), (18, (.rp [(.b y1.star), (.s (bs y1.qual)), (.i .i64 y1.expr.kind), (.i .i64 y1.expr.op), (.b y1.expr.not_), (.i .i64 y1.expr.value.kind), (.i .i64 y1.expr.value.num), (.s (bs y1.expr.value.text)), (.s (bs y1.expr.qual)), (.s (bs y1.expr.name)), (.sl 10 (y1.expr.kids.map cGExpr)), (.sl 6 (y1.expr.sub.map cGQuery)), (.s (bs y1.as_))])), (17, (.d (.i .i64 x4))), (16, (.d (.sl 13 (p0.items.map cGItem)))), (15, (.ptr 1 1)), (12, (.d (.b (decide (x4 < (p0.items.length : Int)))))), (11, (.d (.i .i64 (p0.items.length : Int)))), (10, (.d (.sl 13 (p0.items.map cGItem)))), (9, (.ptr 1 1)), (8, (.d (.i .i64 x4))), (1, (.ptr 1 0)), (3, (.d (.sl 10 (x3.map cGExpr)))), (4, (.d (.i .i64 x4)))], [(1, [(.d (.b p0.distinct)), (.d (.sl 13 (p0.items.map cGItem))), (.d (.sl 3 (p0.from_.map cGSource))), (.d (.sl 10 (p0.where_.map cGExpr))), (.d (.sl 11 (p0.order.map cGSortKey))), (.d (.i .i64 p0.limit))])]⟩) (by kernel_rfl) ?_
        refine nil_in ?_
        refine blockK_norm ?_
        exact next_step (s' := stsL7Exprs_J1 x4 p0 y3) (wk_ren [(3, .old 3)] (by kernel_rfl) (er_cons (vr_same (by kernel_rfl) (by kernel_rfl)) (er_cons (vr_old (t := 3) (by kernel_rfl) (by kernel_rfl)) (er_cons (vr_same (by kernel_rfl) (by kernel_rfl)) (er_nil)))) (br_same (by kernel_rfl) (by kernel_rfl) (br_nil))) (OK_sL7Exprs_J1 x4 y3 _ h)
      · clear h; intro h
        refine skip_in ?_
        refine blockK_norm ?_
        exact next_step (s' := stsL7Exprs_J1 x4 p0 x3) (wk_ren [(3, .old 3)] (by kernel_rfl) (er_cons (vr_same (by kernel_rfl) (by kernel_rfl)) (er_cons (vr_old (t := 3) (by kernel_rfl) (by kernel_rfl)) (er_cons (vr_same (by kernel_rfl) (by kernel_rfl)) (er_nil)))) (br_same (by kernel_rfl) (by kernel_rfl) (br_nil))) (OK_sL7Exprs_J1 x4 x3 _ h)
    · clear h; intro h
      refine exit_in ?_
      refine thenK_exit ?_
      refine thenK_exit ?_
      refine blockK_here ?_
      refine next_in ?_
      refine seq_in ?_
      refine seq_in ?_
      refine ops_in ?_
      refine sts_ok 1 (s' := ⟨(5, (.d (.i .i64 0))) :: (12, (.d (.b (decide (x4 < (p0.items.length : Int)))))) :: (11, (.d (.i .i64 (p0.items.length : Int)))) :: (10, (.d (.sl 13 (p0.items.map cGItem)))) :: (9, (.ptr 1 1)) :: (8, (.d (.i .i64 x4))) :: (stsL7Exprs_L0 p0 x3 x4).env, (stsL7Exprs_L0 p0 x3 x4).bx⟩) (by kernel_rfl) ?_
      refine nil_in ?_
      refine next_in ?_
      refine block_in ?_
      exact loop_go (s' := stsL7Exprs_L2 p0 x3 0) (wk_ren [(3, .old 3)] (by kernel_rfl) (er_cons (vr_same (by kernel_rfl) (by kernel_rfl)) (er_cons (vr_old (t := 3) (by kernel_rfl) (by kernel_rfl)) (er_cons (vr_same (by kernel_rfl) (by kernel_rfl)) (er_nil)))) (br_same (by kernel_rfl) (by kernel_rfl) (br_nil))) (OK_sL7Exprs_L2 p0 x3 0 _ h)
theorem OK_sL7Exprs_J1 (x4 : Int) (p0 : GQuery) (x3_4 : (List GExpr)) (r : (List GExpr)) (h : sL7Exprs_J1 x4 p0 x3_4 = some r) : avc Try.prog acsL7Exprs_J1 (qsL7Exprs_2 r) (stsL7Exprs_J1 x4 p0 x3_4) := (OKs_sL7Exprs_J1 p0).1 x4 x3_4 r h
theorem OK_sL7Exprs_L0 (p0 : GQuery) (x3 : (List GExpr)) (x4 : Int) (r : (List GExpr)) (h : sL7Exprs_L0 p0 x3 x4 = some r) : avc Try.prog acsL7Exprs_L0 (qsL7Exprs_1 r) (stsL7Exprs_L0 p0 x3 x4) := (OKs_sL7Exprs_J1 p0).2 x3 x4 r h
theorem OK_sL7Exprs (p0 : GQuery) : FOkB Try.prog 58 [(vGQuery p0)] [] (fun (y : (List GExpr)) => (.osl 2000000 49 10 (y.map cGExpr))) (fun (y : (List GExpr)) => []) (sL7Exprs p0) := by
  intro r h
  rw [sL7Exprs] at h
  refine acalls_of_fn trsL7Exprs (Nat.le_of_ble_eq_true rfl) (by simp) ?_
  show avc Try.prog acsL7Exprs (qsL7Exprs _) ⟨[(0, (vGQuery p0))], []⟩
  delta acsL7Exprs
  refine seq_in ?_
  refine ops_in ?_
  refine sts_ok 2 (s' := ⟨[(2, (.nil 10)), (1, (.ptr 1 0)), (0, (vGQuery p0))], [(1, [(.d (.b p0.distinct)), (.d (.sl 13 (p0.items.map cGItem))), (.d (.sl 3 (p0.from_.map cGSource))), (.d (.sl 10 (p0.where_.map cGExpr))), (.d (.sl 11 (p0.order.map cGSortKey))), (.d (.i .i64 p0.limit))])]⟩) (by kernel_rfl) ?_
  refine nil_in ?_
  refine next_in ?_
  refine seq_in ?_
  refine ops_in ?_
  refine bsl_step (l := ([] : List GExpr)) (f := cGExpr) (g := oGExpr) (by kernel_rfl) cGExpr_eq (by kernel_rfl) ?_
  refine sts_ok 1 (s' := ⟨[(3, (.osl 3 49 10 (([] : List GExpr).map cGExpr))), (7, (.d (.sl 10 (([] : List GExpr).map cGExpr)))), (2, (.nil 10)), (1, (.ptr 1 0)), (0, (vGQuery p0))], [(1, [(.d (.b p0.distinct)), (.d (.sl 13 (p0.items.map cGItem))), (.d (.sl 3 (p0.from_.map cGSource))), (.d (.sl 10 (p0.where_.map cGExpr))), (.d (.sl 11 (p0.order.map cGSortKey))), (.d (.i .i64 p0.limit))])]⟩) (by kernel_rfl) ?_
  refine nil_in ?_
  refine next_in ?_
  refine seq_in ?_
  refine seq_in ?_
  refine ops_in ?_
  refine sts_ok 1 (s' := ⟨[(4, (.d (.i .i64 0))), (3, (.osl 3 49 10 (([] : List GExpr).map cGExpr))), (7, (.d (.sl 10 (([] : List GExpr).map cGExpr)))), (2, (.nil 10)), (1, (.ptr 1 0)), (0, (vGQuery p0))], [(1, [(.d (.b p0.distinct)), (.d (.sl 13 (p0.items.map cGItem))), (.d (.sl 3 (p0.from_.map cGSource))), (.d (.sl 10 (p0.where_.map cGExpr))), (.d (.sl 11 (p0.order.map cGSortKey))), (.d (.i .i64 p0.limit))])]⟩) (by kernel_rfl) ?_
  refine nil_in ?_
  refine next_in ?_
  refine block_in ?_
  exact loop_go (s' := stsL7Exprs_L0 p0 ([] : List GExpr) 0) (wk_ren [(3, .old 3)] (by kernel_rfl) (er_cons (vr_same (by kernel_rfl) (by kernel_rfl)) (er_cons (vr_old (t := 3) (by kernel_rfl) (by kernel_rfl)) (er_cons (vr_same (by kernel_rfl) (by kernel_rfl)) (er_nil)))) (br_same (by kernel_rfl) (by kernel_rfl) (br_nil))) (OK_sL7Exprs_L0 p0 ([] : List GExpr) 0 _ h)
theorem OK_sL1In (p0 : Int) (p1 : Int) (p2 : Int) : FOk Try.prog 126 [(.d (.i .i64 p0)), (.d (.i .i64 p1)), (.d (.i .i64 p2))] (fun y => (.d (.b y))) (sL1In p0 p1 p2) := by
  intro r h
  rw [sL1In] at h
  refine acalls_of_fn trsL1In (Nat.le_of_ble_eq_true rfl) (by simp) ?_
  show avc Try.prog acsL1In (qsL1In _) ⟨[(0, (.d (.i .i64 p0))), (1, (.d (.i .i64 p1))), (2, (.d (.i .i64 p2)))], []⟩
  delta acsL1In
  refine seq_in ?_
  refine ops_in ?_
  refine sts_ok 1 (s' := ⟨[(6, (.d (.b false))), (0, (.d (.i .i64 p0))), (1, (.d (.i .i64 p1))), (2, (.d (.i .i64 p2)))], []⟩) (by kernel_rfl) ?_
  refine nil_in ?_
  refine next_in ?_
  refine seq_in ?_
  refine ops_in ?_
  refine sts_ok 4 (s' := ⟨[(10, (.d (.b (decide (p1 ≤ p0))))), (9, (.d (.b (decide (p1 ≤ p0))))), (8, (.d (.i .i64 p1))), (7, (.d (.i .i64 p0))), (6, (.d (.b false))), (0, (.d (.i .i64 p0))), (1, (.d (.i .i64 p1))), (2, (.d (.i .i64 p2)))], []⟩) (by kernel_rfl) ?_
  refine gp_step (p := true) (b := (decide (p1 ≤ p0))) (v' := (.d (.i .i64 p0))) (by kernel_rfl) rfl rfl (fun hc => vop_val1 (by kernel_rfl) (by kernel_rfl)) ?_
  refine gp_step (p := true) (b := (decide (p1 ≤ p0))) (v' := (.d (.i .i64 p2))) (by kernel_rfl) rfl rfl (fun hc => vop_val1 (by kernel_rfl) (by kernel_rfl)) ?_
  refine gp_step (p := true) (b := (decide (p1 ≤ p0))) (v' := (.d (.b (decide (p0 ≤ p2))))) (by kernel_rfl) rfl rfl (fun hc => vop_val1 (Eq.trans (b := ([(true && ((decide (p1 ≤ p0)) == true)), (true && ((decide (p1 ≤ p0)) == true))] : List Bool).all id) (by kernel_rfl) (all_c hc (all_c hc rfl))) (by kernel_rfl)) ?_
  refine p_step (v' := (.d (.b (if (decide (p1 ≤ p0)) = true then (decide (p0 ≤ p2)) else false)))) rfl rfl (vop_pick (b := (decide (p1 ≤ p0))) (p := (true && ((decide (p1 ≤ p0)) == true))) (u := (decide (p0 ≤ p2))) (q := true) (v := false) (by kernel_rfl) (by kernel_rfl) (by kernel_rfl) (by kernel_rfl) (fun hb => gc_t rfl hb) (fun _ => rfl)) ?_
  refine sts_ok 1 (s' := ⟨[(6, (.d (.b (if (decide (p1 ≤ p0)) = true then (decide (p0 ≤ p2)) else false)))), (14, (.d (.b (if (decide (p1 ≤ p0)) = true then (decide (p0 ≤ p2)) else false)))), (13, (.ite (true && ((decide (p1 ≤ p0)) == true)) (.d (.b (decide (p0 ≤ p2)))))), (12, (.ite (true && ((decide (p1 ≤ p0)) == true)) (.d (.i .i64 p2)))), (11, (.ite (true && ((decide (p1 ≤ p0)) == true)) (.d (.i .i64 p0)))), (10, (.d (.b (decide (p1 ≤ p0))))), (9, (.d (.b (decide (p1 ≤ p0))))), (8, (.d (.i .i64 p1))), (7, (.d (.i .i64 p0))), (6, (.d (.b false))), (0, (.d (.i .i64 p0))), (1, (.d (.i .i64 p1))), (2, (.d (.i .i64 p2)))], []⟩) (by kernel_rfl) ?_
  refine nil_in ?_
  refine next_in ?_
  refine ret_in ?_
  have h := Option.some.inj h; subst h
  exact ret1_step (v := (.d (.b (if (decide (p1 ≤ p0)) = true then (decide (p0 ≤ p2)) else false)))) (by kernel_rfl) (by kernel_rfl) (by kernel_rfl)
theorem OK_sLevelOf_J2 (r : Int) (h : sLevelOf_J2 = some r) : avc Try.prog acsLevelOf_J2 (qsLevelOf r) (stsLevelOf_J2) := by
  rw [sLevelOf_J2] at h
  delta acsLevelOf_J2
  refine seq_in ?_
  refine ops_in ?_
  refine sts_ok 1 (s' := ⟨(2, (.d (.i .i64 0))) :: (stsLevelOf_J2).env, (stsLevelOf_J2).bx⟩) (by kernel_rfl) ?_
  refine nil_in ?_
  refine next_in ?_
  refine ret_in ?_
  have h := Option.some.inj h; subst h
  exact ret1_step (v := (.d (.i .i64 0))) (by kernel_rfl) (by kernel_rfl) (by kernel_rfl)
theorem OK_sLevelOf_J1 (p0 : GExpr) (x9 : Bool) (r : Int) (h : sLevelOf_J1 p0 x9 = some r) : avc Try.prog acsLevelOf_J1 (qsLevelOf_1 r) (stsLevelOf_J1 p0 x9) := by
  rw [sLevelOf_J1] at h
  delta acsLevelOf_J1
  refine cond_step h (by kernel_rfl) ?_ ?_
  · clear h; intro h
    refine seq_in ?_
    refine ops_in ?_
    refine sts_ok 1 (s' := ⟨(2, (.d (.i .i64 4))) :: (stsLevelOf_J1 p0 x9).env, (stsLevelOf_J1 p0 x9).bx⟩) (by kernel_rfl) ?_
    refine nil_in ?_
    refine next_in ?_
    refine ret_in ?_
    refine blockK_ret ?_
    refine thenK_ret ?_
    have h := Option.some.inj h; subst h
    exact ret1_step (v := (.d (.i .i64 4))) (by kernel_rfl) (by kernel_rfl) (by kernel_rfl)
  · clear h; intro h
    refine seq_in ?_
    refine ops_in ?_
    refine sts_ok 2 (s' := ⟨(14, (.d (.b (decide (p0.kind = 3))))) :: (15, (.d (.b (decide (p0.kind = 3))))) :: (stsLevelOf_J1 p0 x9).env, (stsLevelOf_J1 p0 x9).bx⟩) (by kernel_rfl) ?_
    refine nil_in ?_
    refine next_in ?_
    refine cond_step h (by kernel_rfl) ?_ ?_
    · clear h; intro h
      refine seq_in ?_
      refine seq_in ?_
      refine ops_in ?_
      refine sts_ok 3 (s' := ⟨(18, (.d (.b (decide (p0.op = 15))))) :: (17, (.d (.i .i64 p0.op))) :: (16, (.ptr 1 1)) :: (14, (.d (.b (decide (p0.kind = 3))))) :: (15, (.d (.b (decide (p0.kind = 3))))) :: (stsLevelOf_J1 p0 x9).env, (stsLevelOf_J1 p0 x9).bx⟩) (by kernel_rfl) ?_
      refine nil_in ?_
      refine next_in ?_
      refine cond_step h (by kernel_rfl) ?_ ?_
      · clear h; intro h
        refine seq_in ?_
        refine ops_in ?_
        refine sts_ok 1 (s' := ⟨(2, (.d (.i .i64 3))) :: (18, (.d (.b (decide (p0.op = 15))))) :: (17, (.d (.i .i64 p0.op))) :: (16, (.ptr 1 1)) :: (14, (.d (.b (decide (p0.kind = 3))))) :: (15, (.d (.b (decide (p0.kind = 3))))) :: (stsLevelOf_J1 p0 x9).env, (stsLevelOf_J1 p0 x9).bx⟩) (by kernel_rfl) ?_
        refine nil_in ?_
        refine next_in ?_
        refine ret_in ?_
        refine thenK_ret ?_
        refine blockK_ret ?_
        refine thenK_ret ?_
        have h := Option.some.inj h; subst h
        exact ret1_step (v := (.d (.i .i64 3))) (by kernel_rfl) (by kernel_rfl) (by kernel_rfl)
      · clear h; intro h
        refine skip_in ?_
        refine next_in ?_
        refine seq_in ?_
        refine ops_in ?_
        refine sts_ok 3 (s' := ⟨(21, (.d (.b (decide (p0.op = 16))))) :: (20, (.d (.i .i64 p0.op))) :: (19, (.ptr 1 1)) :: (18, (.d (.b (decide (p0.op = 15))))) :: (17, (.d (.i .i64 p0.op))) :: (16, (.ptr 1 1)) :: (14, (.d (.b (decide (p0.kind = 3))))) :: (15, (.d (.b (decide (p0.kind = 3))))) :: (stsLevelOf_J1 p0 x9).env, (stsLevelOf_J1 p0 x9).bx⟩) (by kernel_rfl) ?_
        refine nil_in ?_
        refine next_in ?_
        refine cond_step h (by kernel_rfl) ?_ ?_
        · clear h; intro h
          refine seq_in ?_
          refine ops_in ?_
          refine sts_ok 1 (s' := ⟨(2, (.d (.i .i64 8))) :: (21, (.d (.b (decide (p0.op = 16))))) :: (20, (.d (.i .i64 p0.op))) :: (19, (.ptr 1 1)) :: (18, (.d (.b (decide (p0.op = 15))))) :: (17, (.d (.i .i64 p0.op))) :: (16, (.ptr 1 1)) :: (14, (.d (.b (decide (p0.kind = 3))))) :: (15, (.d (.b (decide (p0.kind = 3))))) :: (stsLevelOf_J1 p0 x9).env, (stsLevelOf_J1 p0 x9).bx⟩) (by kernel_rfl) ?_
          refine nil_in ?_
          refine next_in ?_
          refine ret_in ?_
          refine blockK_ret ?_
          refine thenK_ret ?_
          have h := Option.some.inj h; subst h
          exact ret1_step (v := (.d (.i .i64 8))) (by kernel_rfl) (by kernel_rfl) (by kernel_rfl)
        · clear h; intro h
          refine skip_in ?_
          refine blockK_norm ?_
          exact next_step (s' := stsLevelOf_J2) (wk_ren [] (by kernel_rfl) (er_nil) (br_nil)) (OK_sLevelOf_J2 _ h)
    · clear h; intro h
      refine seq_in ?_
      refine ops_in ?_
      refine sts_ok 2 (s' := ⟨(22, (.d (.b (decide (p0.kind = 4))))) :: (23, (.d (.b (decide (p0.kind = 4))))) :: (14, (.d (.b (decide (p0.kind = 3))))) :: (15, (.d (.b (decide (p0.kind = 3))))) :: (stsLevelOf_J1 p0 x9).env, (stsLevelOf_J1 p0 x9).bx⟩) (by kernel_rfl) ?_
      refine nil_in ?_
      refine next_in ?_
      refine cond_step h (by kernel_rfl) ?_ ?_
      · clear h; intro h
        refine seq_in ?_
        refine ops_in ?_
        refine sts_ok 2 (s' := ⟨(25, (.d (.i .i64 p0.op))) :: (24, (.ptr 1 1)) :: (22, (.d (.b (decide (p0.kind = 4))))) :: (23, (.d (.b (decide (p0.kind = 4))))) :: (14, (.d (.b (decide (p0.kind = 3))))) :: (15, (.d (.b (decide (p0.kind = 3))))) :: (stsLevelOf_J1 p0 x9).env, (stsLevelOf_J1 p0 x9).bx⟩) (by kernel_rfl) ?_
        refine call_step (m := sL1In p0.op 1 14) (args := [(.d (.i .i64 p0.op)), (.d (.i .i64 1)), (.d (.i .i64 14))]) (v' := (fun y => (.d (.b y)))) h (OK_sL1In p0.op 1 14) (by kernel_rfl) (by kernel_rfl) (fun _ => rfl) ?_
        clear h; intro y1 h
        refine nil_in ?_
        refine next_in ?_
        refine cond_step h (by kernel_rfl) ?_ ?_
        · clear h; intro h
          refine seq_in ?_
          refine ops_in ?_
          refine bsl_step (l := ([0, 1, 2, 4, 4, 4, 4, 4, 4, 5, 6, 6, 7, 7, 7] : List Int)) (f := cI) (g := cI) (by kernel_rfl) (fun _ => rfl) (by kernel_rfl) ?_
          refine sts_ok 2 (s' := ⟨(29, (.d (.i .i64 p0.op))) :: (28, (.ptr 1 1)) :: (27, (.osl 27 3 1 (([0, 1, 2, 4, 4, 4, 4, 4, 4, 5, 6, 6, 7, 7, 7] : List Int).map cI))) :: (26, (.d (.b y1))) :: (25, (.d (.i .i64 p0.op))) :: (24, (.ptr 1 1)) :: (22, (.d (.b (decide (p0.kind = 4))))) :: (23, (.d (.b (decide (p0.kind = 4))))) :: (14, (.d (.b (decide (p0.kind = 3))))) :: (15, (.d (.b (decide (p0.kind = 3))))) :: (stsLevelOf_J1 p0 x9).env, (stsLevelOf_J1 p0 x9).bx⟩) (by kernel_rfl) ?_
          refine v_step (m := idx ([0, 1, 2, 4, 4, 4, 4, 4, 4, 5, 6, 6, 7, 7, 7] : List Int) p0.op) (v' := fun y => (.rp [(.i .i64 y)])) h rfl rfl (fun y hy => vop_ia (l := ([0, 1, 2, 4, 4, 4, 4, 4, 4, 5, 6, 6, 7, 7, 7] : List Int)) (f := cI) (g := cI) (k := .i64) hy (fun _ => rfl) (by kernel_rfl) (by kernel_rfl) (by kernel_rfl)) ?_
          clear h; intro y2 h
          refine sts_ok 2 (s' := ⟨(2, (.d (.i .i64 y2))) :: (31, (.d (.i .i64 y2))) :: (30, (.rp [(.i .i64 y2)])) :: (29, (.d (.i .i64 p0.op))) :: (28, (.ptr 1 1)) :: (27, (.osl 27 3 1 (([0, 1, 2, 4, 4, 4, 4, 4, 4, 5, 6, 6, 7, 7, 7] : List Int).map cI))) :: (26, (.d (.b y1))) :: (25, (.d (.i .i64 p0.op))) :: (24, (.ptr 1 1)) :: (22, (.d (.b (decide (p0.kind = 4))))) :: (23, (.d (.b (decide (p0.kind = 4))))) :: (14, (.d (.b (decide (p0.kind = 3))))) :: (15, (.d (.b (decide (p0.kind = 3))))) :: (stsLevelOf_J1 p0 x9).env, (stsLevelOf_J1 p0 x9).bx⟩) (by kernel_rfl) ?_
          refine nil_in ?_
          refine next_in ?_
          refine ret_in ?_
          refine blockK_ret ?_
          refine thenK_ret ?_
          have h := Option.some.inj h; subst h
          exact ret1_step (v := (.d (.i .i64 y2))) (by kernel_rfl) (by kernel_rfl) (by kernel_rfl)
        · clear h; intro h
          refine skip_in ?_
          refine blockK_norm ?_
          exact next_step (s' := stsLevelOf_J2) (wk_ren [] (by kernel_rfl) (er_nil) (br_nil)) (OK_sLevelOf_J2 _ h)
      · clear h; intro h
        refine skip_in ?_
        refine blockK_norm ?_
        exact next_step (s' := stsLevelOf_J2) (wk_ren [] (by kernel_rfl) (er_nil) (br_nil)) (OK_sLevelOf_J2 _ h)
theorem OK_sLevelOf_J0 (p0 : GExpr) (x5 : Bool) (r : Int) (h : sLevelOf_J0 p0 x5 = some r) : avc Try.prog acsLevelOf_J0 (qsLevelOf_1 r) (stsLevelOf_J0 p0 x5) := by
  rw [sLevelOf_J0] at h
  delta acsLevelOf_J0
  refine cond_step h (by kernel_rfl) ?_ ?_
  · clear h; intro h
    refine seq_in ?_
    refine ops_in ?_
    refine sts_ok 1 (s' := ⟨(2, (.d (.i .i64 9))) :: (stsLevelOf_J0 p0 x5).env, (stsLevelOf_J0 p0 x5).bx⟩) (by kernel_rfl) ?_
    refine nil_in ?_
    refine next_in ?_
    refine ret_in ?_
    refine blockK_ret ?_
    refine thenK_ret ?_
    have h := Option.some.inj h; subst h
    exact ret1_step (v := (.d (.i .i64 9))) (by kernel_rfl) (by kernel_rfl) (by kernel_rfl)
  · clear h; intro h
    refine seq_in ?_
    refine seq_in ?_
    refine ops_in ?_
    refine sts_ok 2 (s' := ⟨(9, (.d (.b (decide (p0.kind = 5))))) :: (10, (.d (.b (decide (p0.kind = 5))))) :: (stsLevelOf_J0 p0 x5).env, (stsLevelOf_J0 p0 x5).bx⟩) (by kernel_rfl) ?_
    refine nil_in ?_
    refine next_in ?_
    refine cond_step h (by kernel_rfl) ?_ ?_
    · clear h; intro h
      refine skip_in ?_
      exact next_step (s' := stsLevelOf_J1 p0 (decide (p0.kind = 5))) (wk_ren [] (by kernel_rfl) (er_cons (vr_same (by kernel_rfl) (by kernel_rfl)) (er_cons (vr_same (by kernel_rfl) (by kernel_rfl)) (er_cons (vr_same (by kernel_rfl) (by kernel_rfl)) (er_nil)))) (br_same (by kernel_rfl) (by kernel_rfl) (br_nil))) (OK_sLevelOf_J1 p0 (decide (p0.kind = 5)) _ h)
    · clear h; intro h
      refine seq_in ?_
      refine ops_in ?_
      refine sts_ok 2 (s' := ⟨(9, (.d (.b (decide (p0.kind = 6))))) :: (11, (.d (.b (decide (p0.kind = 6))))) :: (9, (.d (.b (decide (p0.kind = 5))))) :: (10, (.d (.b (decide (p0.kind = 5))))) :: (stsLevelOf_J0 p0 x5).env, (stsLevelOf_J0 p0 x5).bx⟩) (by kernel_rfl) ?_
      refine nil_in ?_
      refine next_in ?_
      refine cond_step h (by kernel_rfl) ?_ ?_
      · clear h; intro h
        refine skip_in ?_
        exact next_step (s' := stsLevelOf_J1 p0 (decide (p0.kind = 6))) (wk_ren [] (by kernel_rfl) (er_cons (vr_same (by kernel_rfl) (by kernel_rfl)) (er_cons (vr_same (by kernel_rfl) (by kernel_rfl)) (er_cons (vr_same (by kernel_rfl) (by kernel_rfl)) (er_nil)))) (br_same (by kernel_rfl) (by kernel_rfl) (br_nil))) (OK_sLevelOf_J1 p0 (decide (p0.kind = 6)) _ h)
      · clear h; intro h
        refine seq_in ?_
        refine ops_in ?_
        refine sts_ok 2 (s' := ⟨(9, (.d (.b (decide (p0.kind = 7))))) :: (12, (.d (.b (decide (p0.kind = 7))))) :: (9, (.d (.b (decide (p0.kind = 6))))) :: (11, (.d (.b (decide (p0.kind = 6))))) :: (9, (.d (.b (decide (p0.kind = 5))))) :: (10, (.d (.b (decide (p0.kind = 5))))) :: (stsLevelOf_J0 p0 x5).env, (stsLevelOf_J0 p0 x5).bx⟩) (by kernel_rfl) ?_
        refine nil_in ?_
        refine next_in ?_
        refine cond_step h (by kernel_rfl) ?_ ?_
        · clear h; intro h
          refine skip_in ?_
          exact next_step (s' := stsLevelOf_J1 p0 (decide (p0.kind = 7))) (wk_ren [] (by kernel_rfl) (er_cons (vr_same (by kernel_rfl) (by kernel_rfl)) (er_cons (vr_same (by kernel_rfl) (by kernel_rfl)) (er_cons (vr_same (by kernel_rfl) (by kernel_rfl)) (er_nil)))) (br_same (by kernel_rfl) (by kernel_rfl) (br_nil))) (OK_sLevelOf_J1 p0 (decide (p0.kind = 7)) _ h)
        · clear h; intro h
          refine ops_in ?_
          refine sts_ok 2 (s' := ⟨(9, (.d (.b (decide (p0.kind = 8))))) :: (13, (.d (.b (decide (p0.kind = 8))))) :: (9, (.d (.b (decide (p0.kind = 7))))) :: (12, (.d (.b (decide (p0.kind = 7))))) :: (9, (.d (.b (decide (p0.kind = 6))))) :: (11, (.d (.b (decide (p0.kind = 6))))) :: (9, (.d (.b (decide (p0.kind = 5))))) :: (10, (.d (.b (decide (p0.kind = 5))))) :: (stsLevelOf_J0 p0 x5).env, (stsLevelOf_J0 p0 x5).bx⟩) (by kernel_rfl) ?_
          refine nil_in ?_
          exact next_step (s' := stsLevelOf_J1 p0 (decide (p0.kind = 8))) (wk_ren [] (by kernel_rfl) (er_cons (vr_same (by kernel_rfl) (by kernel_rfl)) (er_cons (vr_same (by kernel_rfl) (by kernel_rfl)) (er_cons (vr_same (by kernel_rfl) (by kernel_rfl)) (er_nil)))) (br_same (by kernel_rfl) (by kernel_rfl) (br_nil))) (OK_sLevelOf_J1 p0 (decide (p0.kind = 8)) _ h)
theorem OK_sLevelOf (p0 : GExpr) : FOk Try.prog 127 [(vGExpr p0)] (fun y => (.d (.i .i64 y))) (sLevelOf p0) := by
  intro r h
  rw [sLevelOf] at h
  refine acalls_of_fn trsLevelOf (Nat.le_of_ble_eq_true rfl) (by simp) ?_
  show avc Try.prog acsLevelOf (qsLevelOf _) ⟨[(0, (vGExpr p0))], []⟩
  delta acsLevelOf
  refine seq_in ?_
  refine ops_in ?_
  refine sts_ok 2 (s' := ⟨[(2, (.d (.i .i64 0))), (1, (.ptr 1 0)), (0, (vGExpr p0))], [(1, [(.d (.i .i64 p0.kind)), (.d (.i .i64 p0.op)), (.d (.b p0.not_)), (.d (.i .i64 p0.value.kind)), (.d (.i .i64 p0.value.num)), (.d (.s (bs p0.value.text))), (.d (.s (bs p0.qual))), (.d (.s (bs p0.name))), (.d (.sl 10 (p0.kids.map cGExpr))), (.d (.sl 6 (p0.sub.map cGQuery)))])]⟩) (by kernel_rfl) ?_
  refine nil_in ?_
  refine next_in ?_
  refine seq_in ?_
  refine seq_in ?_
  refine ops_in ?_
  refine sts_ok 2 (s' := ⟨[(4, (.d (.i .i64 p0.kind))), (3, (.ptr 1 0)), (2, (.d (.i .i64 0))), (1, (.ptr 1 0)), (0, (vGExpr p0))], [(1, [(.d (.i .i64 p0.kind)), (.d (.i .i64 p0.op)), (.d (.b p0.not_)), (.d (.i .i64 p0.value.kind)), (.d (.i .i64 p0.value.num)), (.d (.s (bs p0.value.text))), (.d (.s (bs p0.qual))), (.d (.s (bs p0.name))), (.d (.sl 10 (p0.kids.map cGExpr))), (.d (.sl 6 (p0.sub.map cGQuery)))])]⟩) (by kernel_rfl) ?_
  refine nil_in ?_
  refine next_in ?_
  refine block_in ?_
  refine seq_in ?_
  refine seq_in ?_
  refine ops_in ?_
  refine sts_ok 2 (s' := ⟨[(5, (.d (.b (decide (p0.kind = 1))))), (6, (.d (.b (decide (p0.kind = 1))))), (4, (.d (.i .i64 p0.kind))), (3, (.ptr 1 0)), (2, (.d (.i .i64 0))), (1, (.ptr 1 0)), (0, (vGExpr p0))], [(1, [(.d (.i .i64 p0.kind)), (.d (.i .i64 p0.op)), (.d (.b p0.not_)), (.d (.i .i64 p0.value.kind)), (.d (.i .i64 p0.value.num)), (.d (.s (bs p0.value.text))), (.d (.s (bs p0.qual))), (.d (.s (bs p0.name))), (.d (.sl 10 (p0.kids.map cGExpr))), (.d (.sl 6 (p0.sub.map cGQuery)))])]⟩) (by kernel_rfl) ?_
  refine nil_in ?_
  refine next_in ?_
  refine cond_step h (by kernel_rfl) ?_ ?_
  · clear h; intro h
    refine skip_in ?_
    exact next_step (s' := stsLevelOf_J0 p0 (decide (p0.kind = 1))) (wk_ren [] (by kernel_rfl) (er_cons (vr_same (by kernel_rfl) (by kernel_rfl)) (er_cons (vr_same (by kernel_rfl) (by kernel_rfl)) (er_cons (vr_same (by kernel_rfl) (by kernel_rfl)) (er_nil)))) (br_same (by kernel_rfl) (by kernel_rfl) (br_nil))) (OK_sLevelOf_J0 p0 (decide (p0.kind = 1)) _ h)
  · clear h; intro h
    refine seq_in ?_
    refine ops_in ?_
    refine sts_ok 2 (s' := ⟨[(5, (.d (.b (decide (p0.kind = 2))))), (7, (.d (.b (decide (p0.kind = 2))))), (5, (.d (.b (decide (p0.kind = 1))))), (6, (.d (.b (decide (p0.kind = 1))))), (4, (.d (.i .i64 p0.kind))), (3, (.ptr 1 0)), (2, (.d (.i .i64 0))), (1, (.ptr 1 0)), (0, (vGExpr p0))], [(1, [(.d (.i .i64 p0.kind)), (.d (.i .i64 p0.op)), (.d (.b p0.not_)), (.d (.i .i64 p0.value.kind)), (.d (.i .i64 p0.value.num)), (.d (.s (bs p0.value.text))), (.d (.s (bs p0.qual))), (.d (.s (bs p0.name))), (.d (.sl 10 (p0.kids.map cGExpr))), (.d (.sl 6 (p0.sub.map cGQuery)))])]⟩) (by kernel_rfl) ?_
    refine nil_in ?_
    refine next_in ?_
    refine cond_step h (by kernel_rfl) ?_ ?_
    · clear h; intro h
      refine skip_in ?_
      exact next_step (s' := stsLevelOf_J0 p0 (decide (p0.kind = 2))) (wk_ren [] (by kernel_rfl) (er_cons (vr_same (by kernel_rfl) (by kernel_rfl)) (er_cons (vr_same (by kernel_rfl) (by kernel_rfl)) (er_cons (vr_same (by kernel_rfl) (by kernel_rfl)) (er_nil)))) (br_same (by kernel_rfl) (by kernel_rfl) (br_nil))) (OK_sLevelOf_J0 p0 (decide (p0.kind = 2)) _ h)
    · clear h; intro h
      refine ops_in ?_
      refine sts_ok 2 (s' := ⟨[(5, (.d (.b (decide (p0.kind = 9))))), (8, (.d (.b (decide (p0.kind = 9))))), (5, (.d (.b (decide (p0.kind = 2))))), (7, (.d (.b (decide (p0.kind = 2))))), (5, (.d (.b (decide (p0.kind = 1))))), (6, (.d (.b (decide (p0.kind = 1))))), (4, (.d (.i .i64 p0.kind))), (3, (.ptr 1 0)), (2, (.d (.i .i64 0))), (1, (.ptr 1 0)), (0, (vGExpr p0))], [(1, [(.d (.i .i64 p0.kind)), (.d (.i .i64 p0.op)), (.d (.b p0.not_)), (.d (.i .i64 p0.value.kind)), (.d (.i .i64 p0.value.num)), (.d (.s (bs p0.value.text))), (.d (.s (bs p0.qual))), (.d (.s (bs p0.name))), (.d (.sl 10 (p0.kids.map cGExpr))), (.d (.sl 6 (p0.sub.map cGQuery)))])]⟩) (by kernel_rfl) ?_
      refine nil_in ?_
      exact next_step (s' := stsLevelOf_J0 p0 (decide (p0.kind = 9))) (wk_ren [] (by kernel_rfl) (er_cons (vr_same (by kernel_rfl) (by kernel_rfl)) (er_cons (vr_same (by kernel_rfl) (by kernel_rfl)) (er_cons (vr_same (by kernel_rfl) (by kernel_rfl)) (er_nil)))) (br_same (by kernel_rfl) (by kernel_rfl) (br_nil))) (OK_sLevelOf_J0 p0 (decide (p0.kind = 9)) _ h)
theorem OK_sNeeds_J0 (r : Int) (h : sNeeds_J0 = some r) : avc Try.prog acsNeeds_J0 (qsNeeds r) (stsNeeds_J0) := by
  rw [sNeeds_J0] at h
  delta acsNeeds_J0
  refine seq_in ?_
  refine ops_in ?_
  refine sts_ok 1 (s' := ⟨(4, (.d (.i .i64 5))) :: (stsNeeds_J0).env, (stsNeeds_J0).bx⟩) (by kernel_rfl) ?_
  refine nil_in ?_
  refine next_in ?_
  refine ret_in ?_
  have h := Option.some.inj h; subst h
  exact ret1_step (v := (.d (.i .i64 5))) (by kernel_rfl) (by kernel_rfl) (by kernel_rfl)
theorem OK_sNeeds (p0 : GExpr) (p1 : Int) : FOk Try.prog 128 [(vGExpr p0), (.d (.i .i64 p1))] (fun y => (.d (.i .i64 y))) (sNeeds p0 p1) := by
  intro r h
  rw [sNeeds] at h
  refine acalls_of_fn trsNeeds (Nat.le_of_ble_eq_true rfl) (by simp) ?_
  show avc Try.prog acsNeeds (qsNeeds _) ⟨[(0, (vGExpr p0)), (1, (.d (.i .i64 p1)))], []⟩
  delta acsNeeds
  refine seq_in ?_
  refine ops_in ?_
  refine sts_ok 2 (s' := ⟨[(4, (.d (.i .i64 0))), (2, (.ptr 2 0)), (0, (vGExpr p0)), (1, (.d (.i .i64 p1)))], [(2, [(.d (.i .i64 p0.kind)), (.d (.i .i64 p0.op)), (.d (.b p0.not_)), (.d (.i .i64 p0.value.kind)), (.d (.i .i64 p0.value.num)), (.d (.s (bs p0.value.text))), (.d (.s (bs p0.qual))), (.d (.s (bs p0.name))), (.d (.sl 10 (p0.kids.map cGExpr))), (.d (.sl 6 (p0.sub.map cGQuery)))])]⟩) (by kernel_rfl) ?_
  refine nil_in ?_
  refine next_in ?_
  refine seq_in ?_
  refine ops_in ?_
  refine sts_ok 1 (s' := ⟨[(6, (vGExpr p0)), (4, (.d (.i .i64 0))), (2, (.ptr 2 0)), (0, (vGExpr p0)), (1, (.d (.i .i64 p1)))], [(2, [(.d (.i .i64 p0.kind)), (.d (.i .i64 p0.op)), (.d (.b p0.not_)), (.d (.i .i64 p0.value.kind)), (.d (.i .i64 p0.value.num)), (.d (.s (bs p0.value.text))), (.d (.s (bs p0.qual))), (.d (.s (bs p0.name))), (.d (.sl 10 (p0.kids.map cGExpr))), (.d (.sl 6 (p0.sub.map cGQuery)))])]⟩) (by kernel_rfl) ?_
  refine call_step (m := sLevelOf p0) (args := [(vGExpr p0)]) (v' := (fun y => (.d (.i .i64 y)))) h (OK_sLevelOf p0) (by kernel_rfl) (by kernel_rfl) (fun _ => rfl) ?_
  clear h; intro y1 h
  refine sts_ok 1 (s' := ⟨[(5, (.d (.i .i64 y1))), (7, (.d (.i .i64 y1))), (6, (vGExpr p0)), (4, (.d (.i .i64 0))), (2, (.ptr 2 0)), (0, (vGExpr p0)), (1, (.d (.i .i64 p1)))], [(2, [(.d (.i .i64 p0.kind)), (.d (.i .i64 p0.op)), (.d (.b p0.not_)), (.d (.i .i64 p0.value.kind)), (.d (.i .i64 p0.value.num)), (.d (.s (bs p0.value.text))), (.d (.s (bs p0.qual))), (.d (.s (bs p0.name))), (.d (.sl 10 (p0.kids.map cGExpr))), (.d (.sl 6 (p0.sub.map cGQuery)))])]⟩) (by kernel_rfl) ?_
  refine nil_in ?_
  refine next_in ?_
  refine seq_in ?_
  refine seq_in ?_
  refine ops_in ?_
  refine sts_ok 3 (s' := ⟨[(10, (.d (.sl 10 (p0.kids.map cGExpr)))), (9, (.ptr 2 8)), (8, (.d (.i .i64 p1))), (5, (.d (.i .i64 y1))), (7, (.d (.i .i64 y1))), (6, (vGExpr p0)), (4, (.d (.i .i64 0))), (2, (.ptr 2 0)), (0, (vGExpr p0)), (1, (.d (.i .i64 p1)))], [(2, [(.d (.i .i64 p0.kind)), (.d (.i .i64 p0.op)), (.d (.b p0.not_)), (.d (.i .i64 p0.value.kind)), (.d (.i .i64 p0.value.num)), (.d (.s (bs p0.value.text))), (.d (.s (bs p0.qual))), (.d (.s (bs p0.name))), (.d (.sl 10 (p0.kids.map cGExpr))), (.d (.sl 6 (p0.sub.map cGQuery)))])]⟩) (by kernel_rfl) ?_
  refine p_step (v' := (.d (.i .i64 (p0.kids.length : Int)))) rfl rfl (vop_len (sz := 10) (l := p0.kids) (f := cGExpr) (by kernel_rfl) (by kernel_rfl)) ?_
  refine sts_ok 1 (s' := ⟨[(12, (.d (.i .i64 (IntKind.wrap .i64 ((p0.kids.length : Int) - 1))))), (11, (.d (.i .i64 (p0.kids.length : Int)))), (10, (.d (.sl 10 (p0.kids.map cGExpr)))), (9, (.ptr 2 8)), (8, (.d (.i .i64 p1))), (5, (.d (.i .i64 y1))), (7, (.d (.i .i64 y1))), (6, (vGExpr p0)), (4, (.d (.i .i64 0))), (2, (.ptr 2 0)), (0, (vGExpr p0)), (1, (.d (.i .i64 p1)))], [(2, [(.d (.i .i64 p0.kind)), (.d (.i .i64 p0.op)), (.d (.b p0.not_)), (.d (.i .i64 p0.value.kind)), (.d (.i .i64 p0.value.num)), (.d (.s (bs p0.value.text))), (.d (.s (bs p0.qual))), (.d (.s (bs p0.name))), (.d (.sl 10 (p0.kids.map cGExpr))), (.d (.sl 6 (p0.sub.map cGQuery)))])]⟩) (by kernel_rfl) ?_
  refine call_step (m := sL1In p1 0 (IntKind.wrap .i64 ((p0.kids.length : Int) - 1))) (args := [(.d (.i .i64 p1)), (.d (.i .i64 0)), (.d (.i .i64 (IntKind.wrap .i64 ((p0.kids.length : Int) - 1))))]) (v' := (fun y => (.d (.b y)))) h (OK_sL1In p1 0 (IntKind.wrap .i64 ((p0.kids.length : Int) - 1))) (by kernel_rfl) (by kernel_rfl) (fun _ => rfl) ?_
  clear h; intro y2 h
  refine sts_ok 2 (s' := ⟨[(15, (.d (.b (!y2)))), (14, (.d (.b (!y2)))), (13, (.d (.b y2))), (12, (.d (.i .i64 (IntKind.wrap .i64 ((p0.kids.length : Int) - 1))))), (11, (.d (.i .i64 (p0.kids.length : Int)))), (10, (.d (.sl 10 (p0.kids.map cGExpr)))), (9, (.ptr 2 8)), (8, (.d (.i .i64 p1))), (5, (.d (.i .i64 y1))), (7, (.d (.i .i64 y1))), (6, (vGExpr p0)), (4, (.d (.i .i64 0))), (2, (.ptr 2 0)), (0, (vGExpr p0)), (1, (.d (.i .i64 p1)))], [(2, [(.d (.i .i64 p0.kind)), (.d (.i .i64 p0.op)), (.d (.b p0.not_)), (.d (.i .i64 p0.value.kind)), (.d (.i .i64 p0.value.num)), (.d (.s (bs p0.value.text))), (.d (.s (bs p0.qual))), (.d (.s (bs p0.name))), (.d (.sl 10 (p0.kids.map cGExpr))), (.d (.sl 6 (p0.sub.map cGQuery)))])]⟩) (by kernel_rfl) ?_
  refine gp_step (p := true) (b := (!y2)) (v' := (.d (.i .i64 y1))) (by kernel_rfl) rfl rfl (fun hc => vop_val1 (by kernel_rfl) (by kernel_rfl)) ?_
  refine gp_step (p := true) (b := (!y2)) (v' := (.d (.b (decide (y1 = 0))))) (by kernel_rfl) rfl rfl (fun hc => vop_val1 (Eq.trans (b := ([(true && ((!y2) == false))] : List Bool).all id) (by kernel_rfl) (all_c hc rfl)) (by kernel_rfl)) ?_
  refine p_step (v' := (.d (.b (if (!y2) = true then true else (decide (y1 = 0)))))) rfl rfl (vop_pick (b := (!y2)) (p := true) (u := true) (q := (true && ((!y2) == false))) (v := (decide (y1 = 0))) (by kernel_rfl) (by kernel_rfl) (by kernel_rfl) (by kernel_rfl) (fun _ => rfl) (fun hb => gc_f rfl hb)) ?_
  refine sts_ok 1 (s' := ⟨[(19, (.d (.b (if (!y2) = true then true else (decide (y1 = 0)))))), (18, (.d (.b (if (!y2) = true then true else (decide (y1 = 0)))))), (17, (.ite (true && ((!y2) == false)) (.d (.b (decide (y1 = 0)))))), (16, (.ite (true && ((!y2) == false)) (.d (.i .i64 y1)))), (15, (.d (.b (!y2)))), (14, (.d (.b (!y2)))), (13, (.d (.b y2))), (12, (.d (.i .i64 (IntKind.wrap .i64 ((p0.kids.length : Int) - 1))))), (11, (.d (.i .i64 (p0.kids.length : Int)))), (10, (.d (.sl 10 (p0.kids.map cGExpr)))), (9, (.ptr 2 8)), (8, (.d (.i .i64 p1))), (5, (.d (.i .i64 y1))), (7, (.d (.i .i64 y1))), (6, (vGExpr p0)), (4, (.d (.i .i64 0))), (2, (.ptr 2 0)), (0, (vGExpr p0)), (1, (.d (.i .i64 p1)))], [(2, [(.d (.i .i64 p0.kind)), (.d (.i .i64 p0.op)), (.d (.b p0.not_)), (.d (.i .i64 p0.value.kind)), (.d (.i .i64 p0.value.num)), (.d (.s (bs p0.value.text))), (.d (.s (bs p0.qual))), (.d (.s (bs p0.name))), (.d (.sl 10 (p0.kids.map cGExpr))), (.d (.sl 6 (p0.sub.map cGQuery)))])]⟩) (by kernel_rfl) ?_
  refine gp_step (p := true) (b := (if (!y2) = true then true else (decide (y1 = 0)))) (v' := (.d (.i .i64 y1))) (by kernel_rfl) rfl rfl (fun hc => vop_val1 (by kernel_rfl) (by kernel_rfl)) ?_
  refine gp_step (p := true) (b := (if (!y2) = true then true else (decide (y1 = 0)))) (v' := (.d (.b (decide (y1 = 9))))) (by kernel_rfl) rfl rfl (fun hc => vop_val1 (Eq.trans (b := ([(true && ((if (!y2) = true then true else (decide (y1 = 0))) == false))] : List Bool).all id) (by kernel_rfl) (all_c hc rfl)) (by kernel_rfl)) ?_
  refine p_step (v' := (.d (.b (if (if (!y2) = true then true else (decide (y1 = 0))) = true then true else (decide (y1 = 9)))))) rfl rfl (vop_pick (b := (if (!y2) = true then true else (decide (y1 = 0)))) (p := true) (u := true) (q := (true && ((if (!y2) = true then true else (decide (y1 = 0))) == false))) (v := (decide (y1 = 9))) (by kernel_rfl) (by kernel_rfl) (by kernel_rfl) (by kernel_rfl) (fun _ => rfl) (fun hb => gc_f rfl hb)) ?_
  refine nil_in ?_
  refine next_in ?_
  refine cond_step h (by kernel_rfl) ?_ ?_
  · clear h; intro h
    refine seq_in ?_
    refine ops_in ?_
    refine sts_ok 1 (s' := ⟨[(4, (.d (.i .i64 0))), (22, (.d (.b (if (if (!y2) = true then true else (decide (y1 = 0))) = true then true else (decide (y1 = 9)))))), (21, (.ite (true && ((if (!y2) = true then true else (decide (y1 = 0))) == false)) (.d (.b (decide (y1 = 9)))))), (20, (.ite (true && ((if (!y2) = true then true else (decide (y1 = 0))) == false)) (.d (.i .i64 y1)))), (19, (.d (.b (if (!y2) = true then true else (decide (y1 = 0)))))), (18, (.d (.b (if (!y2) = true then true else (decide (y1 = 0)))))), (17, (.ite (true && ((!y2) == false)) (.d (.b (decide (y1 = 0)))))), (16, (.ite (true && ((!y2) == false)) (.d (.i .i64 y1)))), (15, (.d (.b (!y2)))), (14, (.d (.b (!y2)))), (13, (.d (.b y2))), (12, (.d (.i .i64 (IntKind.wrap .i64 ((p0.kids.length : Int) - 1))))), (11, (.d (.i .i64 (p0.kids.length : Int)))), (10, (.d (.sl 10 (p0.kids.map cGExpr)))), (9, (.ptr 2 8)), (8, (.d (.i .i64 p1))), (5, (.d (.i .i64 y1))), (7, (.d (.i .i64 y1))), (6, (vGExpr p0)), (4, (.d (.i .i64 0))), (2, (.ptr 2 0)), (0, (vGExpr p0)), (1, (.d (.i .i64 p1)))], [(2, [(.d (.i .i64 p0.kind)), (.d (.i .i64 p0.op)), (.d (.b p0.not_)), (.d (.i .i64 p0.value.kind)), (.d (.i .i64 p0.value.num)), (.d (.s (bs p0.value.text))), (.d (.s (bs p0.qual))), (.d (.s (bs p0.name))), (.d (.sl 10 (p0.kids.map cGExpr))), (.d (.sl 6 (p0.sub.map cGQuery)))])]⟩) (by kernel_rfl) ?_
    refine nil_in ?_
    refine next_in ?_
    refine ret_in ?_
    refine thenK_ret ?_
    have h := Option.some.inj h; subst h
    exact ret1_step (v := (.d (.i .i64 0))) (by kernel_rfl) (by kernel_rfl) (by kernel_rfl)
  · clear h; intro h
    refine skip_in ?_
    refine next_in ?_
    refine seq_in ?_
    refine seq_in ?_
    refine ops_in ?_
    refine sts_ok 2 (s' := ⟨[(24, (.d (.i .i64 p0.kind))), (23, (.ptr 2 0)), (22, (.d (.b (if (if (!y2) = true then true else (decide (y1 = 0))) = true then true else (decide (y1 = 9)))))), (21, (.ite (true && ((if (!y2) = true then true else (decide (y1 = 0))) == false)) (.d (.b (decide (y1 = 9)))))), (20, (.ite (true && ((if (!y2) = true then true else (decide (y1 = 0))) == false)) (.d (.i .i64 y1)))), (19, (.d (.b (if (!y2) = true then true else (decide (y1 = 0)))))), (18, (.d (.b (if (!y2) = true then true else (decide (y1 = 0)))))), (17, (.ite (true && ((!y2) == false)) (.d (.b (decide (y1 = 0)))))), (16, (.ite (true && ((!y2) == false)) (.d (.i .i64 y1)))), (15, (.d (.b (!y2)))), (14, (.d (.b (!y2)))), (13, (.d (.b y2))), (12, (.d (.i .i64 (IntKind.wrap .i64 ((p0.kids.length : Int) - 1))))), (11, (.d (.i .i64 (p0.kids.length : Int)))), (10, (.d (.sl 10 (p0.kids.map cGExpr)))), (9, (.ptr 2 8)), (8, (.d (.i .i64 p1))), (5, (.d (.i .i64 y1))), (7, (.d (.i .i64 y1))), (6, (vGExpr p0)), (4, (.d (.i .i64 0))), (2, (.ptr 2 0)), (0, (vGExpr p0)), (1, (.d (.i .i64 p1)))], [(2, [(.d (.i .i64 p0.kind)), (.d (.i .i64 p0.op)), (.d (.b p0.not_)), (.d (.i .i64 p0.value.kind)), (.d (.i .i64 p0.value.num)), (.d (.s (bs p0.value.text))), (.d (.s (bs p0.qual))), (.d (.s (bs p0.name))), (.d (.sl 10 (p0.kids.map cGExpr))), (.d (.sl 6 (p0.sub.map cGQuery)))])]⟩) (by kernel_rfl) ?_
    refine nil_in ?_
    refine next_in ?_
    refine block_in ?_
    refine seq_in ?_
    refine ops_in ?_
    refine sts_ok 2 (s' := ⟨[(25, (.d (.b (decide (p0.kind = 3))))), (26, (.d (.b (decide (p0.kind = 3))))), (24, (.d (.i .i64 p0.kind))), (23, (.ptr 2 0)), (22, (.d (.b (if (if (!y2) = true then true else (decide (y1 = 0))) = true then true else (decide (y1 = 9)))))), (21, (.ite (true && ((if (!y2) = true then true else (decide (y1 = 0))) == false)) (.d (.b (decide (y1 = 9)))))), (20, (.ite (true && ((if (!y2) = true then true else (decide (y1 = 0))) == false)) (.d (.i .i64 y1)))), (19, (.d (.b (if (!y2) = true then true else (decide (y1 = 0)))))), (18, (.d (.b (if (!y2) = true then true else (decide (y1 = 0)))))), (17, (.ite (true && ((!y2) == false)) (.d (.b (decide (y1 = 0)))))), (16, (.ite (true && ((!y2) == false)) (.d (.i .i64 y1)))), (15, (.d (.b (!y2)))), (14, (.d (.b (!y2)))), (13, (.d (.b y2))), (12, (.d (.i .i64 (IntKind.wrap .i64 ((p0.kids.length : Int) - 1))))), (11, (.d (.i .i64 (p0.kids.length : Int)))), (10, (.d (.sl 10 (p0.kids.map cGExpr)))), (9, (.ptr 2 8)), (8, (.d (.i .i64 p1))), (5, (.d (.i .i64 y1))), (7, (.d (.i .i64 y1))), (6, (vGExpr p0)), (4, (.d (.i .i64 0))), (2, (.ptr 2 0)), (0, (vGExpr p0)), (1, (.d (.i .i64 p1)))], [(2, [(.d (.i .i64 p0.kind)), (.d (.i .i64 p0.op)), (.d (.b p0.not_)), (.d (.i .i64 p0.value.kind)), (.d (.i .i64 p0.value.num)), (.d (.s (bs p0.value.text))), (.d (.s (bs p0.qual))), (.d (.s (bs p0.name))), (.d (.sl 10 (p0.kids.map cGExpr))), (.d (.sl 6 (p0.sub.map cGQuery)))])]⟩) (by kernel_rfl) ?_
    refine nil_in ?_
    refine next_in ?_
    refine cond_step h (by kernel_rfl) ?_ ?_
    · clear h; intro h
      refine seq_in ?_
      refine ops_in ?_
      refine sts_ok 2 (s' := ⟨[(4, (.d (.i .i64 y1))), (27, (.d (.i .i64 y1))), (25, (.d (.b (decide (p0.kind = 3))))), (26, (.d (.b (decide (p0.kind = 3))))), (24, (.d (.i .i64 p0.kind))), (23, (.ptr 2 0)), (22, (.d (.b (if (if (!y2) = true then true else (decide (y1 = 0))) = true then true else (decide (y1 = 9)))))), (21, (.ite (true && ((if (!y2) = true then true else (decide (y1 = 0))) == false)) (.d (.b (decide (y1 = 9)))))), (20, (.ite (true && ((if (!y2) = true then true else (decide (y1 = 0))) == false)) (.d (.i .i64 y1)))), (19, (.d (.b (if (!y2) = true then true else (decide (y1 = 0)))))), (18, (.d (.b (if (!y2) = true then true else (decide (y1 = 0)))))), (17, (.ite (true && ((!y2) == false)) (.d (.b (decide (y1 = 0)))))), (16, (.ite (true && ((!y2) == false)) (.d (.i .i64 y1)))), (15, (.d (.b (!y2)))), (14, (.d (.b (!y2)))), (13, (.d (.b y2))), (12, (.d (.i .i64 (IntKind.wrap .i64 ((p0.kids.length : Int) - 1))))), (11, (.d (.i .i64 (p0.kids.length : Int)))), (10, (.d (.sl 10 (p0.kids.map cGExpr)))), (9, (.ptr 2 8)), (8, (.d (.i .i64 p1))), (5, (.d (.i .i64 y1))), (7, (.d (.i .i64 y1))), (6, (vGExpr p0)), (4, (.d (.i .i64 0))), (2, (.ptr 2 0)), (0, (vGExpr p0)), (1, (.d (.i .i64 p1)))], [(2, [(.d (.i .i64 p0.kind)), (.d (.i .i64 p0.op)), (.d (.b p0.not_)), (.d (.i .i64 p0.value.kind)), (.d (.i .i64 p0.value.num)), (.d (.s (bs p0.value.text))), (.d (.s (bs p0.qual))), (.d (.s (bs p0.name))), (.d (.sl 10 (p0.kids.map cGExpr))), (.d (.sl 6 (p0.sub.map cGQuery)))])]⟩) (by kernel_rfl) ?_
      refine nil_in ?_
      refine next_in ?_
      refine ret_in ?_
      refine blockK_ret ?_
      refine thenK_ret ?_
      have h := Option.some.inj h; subst h
      exact ret1_step (v := (.d (.i .i64 y1))) (by kernel_rfl) (by kernel_rfl) (by kernel_rfl)
    · clear h; intro h
      refine seq_in ?_
      refine ops_in ?_
      refine sts_ok 2 (s' := ⟨[(28, (.d (.b (decide (p0.kind = 4))))), (29, (.d (.b (decide (p0.kind = 4))))), (25, (.d (.b (decide (p0.kind = 3))))), (26, (.d (.b (decide (p0.kind = 3))))), (24, (.d (.i .i64 p0.kind))), (23, (.ptr 2 0)), (22, (.d (.b (if (if (!y2) = true then true else (decide (y1 = 0))) = true then true else (decide (y1 = 9)))))), (21, (.ite (true && ((if (!y2) = true then true else (decide (y1 = 0))) == false)) (.d (.b (decide (y1 = 9)))))), (20, (.ite (true && ((if (!y2) = true then true else (decide (y1 = 0))) == false)) (.d (.i .i64 y1)))), (19, (.d (.b (if (!y2) = true then true else (decide (y1 = 0)))))), (18, (.d (.b (if (!y2) = true then true else (decide (y1 = 0)))))), (17, (.ite (true && ((!y2) == false)) (.d (.b (decide (y1 = 0)))))), (16, (.ite (true && ((!y2) == false)) (.d (.i .i64 y1)))), (15, (.d (.b (!y2)))), (14, (.d (.b (!y2)))), (13, (.d (.b y2))), (12, (.d (.i .i64 (IntKind.wrap .i64 ((p0.kids.length : Int) - 1))))), (11, (.d (.i .i64 (p0.kids.length : Int)))), (10, (.d (.sl 10 (p0.kids.map cGExpr)))), (9, (.ptr 2 8)), (8, (.d (.i .i64 p1))), (5, (.d (.i .i64 y1))), (7, (.d (.i .i64 y1))), (6, (vGExpr p0)), (4, (.d (.i .i64 0))), (2, (.ptr 2 0)), (0, (vGExpr p0)), (1, (.d (.i .i64 p1)))], [(2, [(.d (.i .i64 p0.kind)), (.d (.i .i64 p0.op)), (.d (.b p0.not_)), (.d (.i .i64 p0.value.kind)), (.d (.i .i64 p0.value.num)), (.d (.s (bs p0.value.text))), (.d (.s (bs p0.qual))), (.d (.s (bs p0.name))), (.d (.sl 10 (p0.kids.map cGExpr))), (.d (.sl 6 (p0.sub.map cGQuery)))])]⟩) (by kernel_rfl) ?_
      refine nil_in ?_
      refine next_in ?_
      refine cond_step h (by kernel_rfl) ?_ ?_
      · clear h; intro h
        refine seq_in ?_
        refine seq_in ?_
        refine ops_in ?_
        refine sts_ok 2 (s' := ⟨[(31, (.d (.b (decide (y1 = 4))))), (30, (.d (.i .i64 y1))), (28, (.d (.b (decide (p0.kind = 4))))), (29, (.d (.b (decide (p0.kind = 4))))), (25, (.d (.b (decide (p0.kind = 3))))), (26, (.d (.b (decide (p0.kind = 3))))), (24, (.d (.i .i64 p0.kind))), (23, (.ptr 2 0)), (22, (.d (.b (if (if (!y2) = true then true else (decide (y1 = 0))) = true then true else (decide (y1 = 9)))))), (21, (.ite (true && ((if (!y2) = true then true else (decide (y1 = 0))) == false)) (.d (.b (decide (y1 = 9)))))), (20, (.ite (true && ((if (!y2) = true then true else (decide (y1 = 0))) == false)) (.d (.i .i64 y1)))), (19, (.d (.b (if (!y2) = true then true else (decide (y1 = 0)))))), (18, (.d (.b (if (!y2) = true then true else (decide (y1 = 0)))))), (17, (.ite (true && ((!y2) == false)) (.d (.b (decide (y1 = 0)))))), (16, (.ite (true && ((!y2) == false)) (.d (.i .i64 y1)))), (15, (.d (.b (!y2)))), (14, (.d (.b (!y2)))), (13, (.d (.b y2))), (12, (.d (.i .i64 (IntKind.wrap .i64 ((p0.kids.length : Int) - 1))))), (11, (.d (.i .i64 (p0.kids.length : Int)))), (10, (.d (.sl 10 (p0.kids.map cGExpr)))), (9, (.ptr 2 8)), (8, (.d (.i .i64 p1))), (5, (.d (.i .i64 y1))), (7, (.d (.i .i64 y1))), (6, (vGExpr p0)), (4, (.d (.i .i64 0))), (2, (.ptr 2 0)), (0, (vGExpr p0)), (1, (.d (.i .i64 p1)))], [(2, [(.d (.i .i64 p0.kind)), (.d (.i .i64 p0.op)), (.d (.b p0.not_)), (.d (.i .i64 p0.value.kind)), (.d (.i .i64 p0.value.num)), (.d (.s (bs p0.value.text))), (.d (.s (bs p0.qual))), (.d (.s (bs p0.name))), (.d (.sl 10 (p0.kids.map cGExpr))), (.d (.sl 6 (p0.sub.map cGQuery)))])]⟩) (by kernel_rfl) ?_
        refine nil_in ?_
        refine next_in ?_
        refine cond_step h (by kernel_rfl) ?_ ?_
        · clear h; intro h
          refine seq_in ?_
          refine ops_in ?_
          refine sts_ok 1 (s' := ⟨[(4, (.d (.i .i64 5))), (31, (.d (.b (decide (y1 = 4))))), (30, (.d (.i .i64 y1))), (28, (.d (.b (decide (p0.kind = 4))))), (29, (.d (.b (decide (p0.kind = 4))))), (25, (.d (.b (decide (p0.kind = 3))))), (26, (.d (.b (decide (p0.kind = 3))))), (24, (.d (.i .i64 p0.kind))), (23, (.ptr 2 0)), (22, (.d (.b (if (if (!y2) = true then true else (decide (y1 = 0))) = true then true else (decide (y1 = 9)))))), (21, (.ite (true && ((if (!y2) = true then true else (decide (y1 = 0))) == false)) (.d (.b (decide (y1 = 9)))))), (20, (.ite (true && ((if (!y2) = true then true else (decide (y1 = 0))) == false)) (.d (.i .i64 y1)))), (19, (.d (.b (if (!y2) = true then true else (decide (y1 = 0)))))), (18, (.d (.b (if (!y2) = true then true else (decide (y1 = 0)))))), (17, (.ite (true && ((!y2) == false)) (.d (.b (decide (y1 = 0)))))), (16, (.ite (true && ((!y2) == false)) (.d (.i .i64 y1)))), (15, (.d (.b (!y2)))), (14, (.d (.b (!y2)))), (13, (.d (.b y2))), (12, (.d (.i .i64 (IntKind.wrap .i64 ((p0.kids.length : Int) - 1))))), (11, (.d (.i .i64 (p0.kids.length : Int)))), (10, (.d (.sl 10 (p0.kids.map cGExpr)))), (9, (.ptr 2 8)), (8, (.d (.i .i64 p1))), (5, (.d (.i .i64 y1))), (7, (.d (.i .i64 y1))), (6, (vGExpr p0)), (4, (.d (.i .i64 0))), (2, (.ptr 2 0)), (0, (vGExpr p0)), (1, (.d (.i .i64 p1)))], [(2, [(.d (.i .i64 p0.kind)), (.d (.i .i64 p0.op)), (.d (.b p0.not_)), (.d (.i .i64 p0.value.kind)), (.d (.i .i64 p0.value.num)), (.d (.s (bs p0.value.text))), (.d (.s (bs p0.qual))), (.d (.s (bs p0.name))), (.d (.sl 10 (p0.kids.map cGExpr))), (.d (.sl 6 (p0.sub.map cGQuery)))])]⟩) (by kernel_rfl) ?_
          refine nil_in ?_
          refine next_in ?_
          refine ret_in ?_
          refine thenK_ret ?_
          refine blockK_ret ?_
          refine thenK_ret ?_
          have h := Option.some.inj h; subst h
          exact ret1_step (v := (.d (.i .i64 5))) (by kernel_rfl) (by kernel_rfl) (by kernel_rfl)
        · clear h; intro h
          refine skip_in ?_
          refine next_in ?_
          refine seq_in ?_
          refine seq_in ?_
          refine ops_in ?_
          refine sts_ok 2 (s' := ⟨[(33, (.d (.b (decide (p1 = 0))))), (32, (.d (.i .i64 p1))), (31, (.d (.b (decide (y1 = 4))))), (30, (.d (.i .i64 y1))), (28, (.d (.b (decide (p0.kind = 4))))), (29, (.d (.b (decide (p0.kind = 4))))), (25, (.d (.b (decide (p0.kind = 3))))), (26, (.d (.b (decide (p0.kind = 3))))), (24, (.d (.i .i64 p0.kind))), (23, (.ptr 2 0)), (22, (.d (.b (if (if (!y2) = true then true else (decide (y1 = 0))) = true then true else (decide (y1 = 9)))))), (21, (.ite (true && ((if (!y2) = true then true else (decide (y1 = 0))) == false)) (.d (.b (decide (y1 = 9)))))), (20, (.ite (true && ((if (!y2) = true then true else (decide (y1 = 0))) == false)) (.d (.i .i64 y1)))), (19, (.d (.b (if (!y2) = true then true else (decide (y1 = 0)))))), (18, (.d (.b (if (!y2) = true then true else (decide (y1 = 0)))))), (17, (.ite (true && ((!y2) == false)) (.d (.b (decide (y1 = 0)))))), (16, (.ite (true && ((!y2) == false)) (.d (.i .i64 y1)))), (15, (.d (.b (!y2)))), (14, (.d (.b (!y2)))), (13, (.d (.b y2))), (12, (.d (.i .i64 (IntKind.wrap .i64 ((p0.kids.length : Int) - 1))))), (11, (.d (.i .i64 (p0.kids.length : Int)))), (10, (.d (.sl 10 (p0.kids.map cGExpr)))), (9, (.ptr 2 8)), (8, (.d (.i .i64 p1))), (5, (.d (.i .i64 y1))), (7, (.d (.i .i64 y1))), (6, (vGExpr p0)), (4, (.d (.i .i64 0))), (2, (.ptr 2 0)), (0, (vGExpr p0)), (1, (.d (.i .i64 p1)))], [(2, [(.d (.i .i64 p0.kind)), (.d (.i .i64 p0.op)), (.d (.b p0.not_)), (.d (.i .i64 p0.value.kind)), (.d (.i .i64 p0.value.num)), (.d (.s (bs p0.value.text))), (.d (.s (bs p0.qual))), (.d (.s (bs p0.name))), (.d (.sl 10 (p0.kids.map cGExpr))), (.d (.sl 6 (p0.sub.map cGQuery)))])]⟩) (by kernel_rfl) ?_
          refine nil_in ?_
          refine next_in ?_
          refine cond_step h (by kernel_rfl) ?_ ?_
          · clear h; intro h
            refine seq_in ?_
            refine ops_in ?_
            refine sts_ok 2 (s' := ⟨[(4, (.d (.i .i64 y1))), (34, (.d (.i .i64 y1))), (33, (.d (.b (decide (p1 = 0))))), (32, (.d (.i .i64 p1))), (31, (.d (.b (decide (y1 = 4))))), (30, (.d (.i .i64 y1))), (28, (.d (.b (decide (p0.kind = 4))))), (29, (.d (.b (decide (p0.kind = 4))))), (25, (.d (.b (decide (p0.kind = 3))))), (26, (.d (.b (decide (p0.kind = 3))))), (24, (.d (.i .i64 p0.kind))), (23, (.ptr 2 0)), (22, (.d (.b (if (if (!y2) = true then true else (decide (y1 = 0))) = true then true else (decide (y1 = 9)))))), (21, (.ite (true && ((if (!y2) = true then true else (decide (y1 = 0))) == false)) (.d (.b (decide (y1 = 9)))))), (20, (.ite (true && ((if (!y2) = true then true else (decide (y1 = 0))) == false)) (.d (.i .i64 y1)))), (19, (.d (.b (if (!y2) = true then true else (decide (y1 = 0)))))), (18, (.d (.b (if (!y2) = true then true else (decide (y1 = 0)))))), (17, (.ite (true && ((!y2) == false)) (.d (.b (decide (y1 = 0)))))), (16, (.ite (true && ((!y2) == false)) (.d (.i .i64 y1)))), (15, (.d (.b (!y2)))), (14, (.d (.b (!y2)))), (13, (.d (.b y2))), (12, (.d (.i .i64 (IntKind.wrap .i64 ((p0.kids.length : Int) - 1))))), (11, (.d (.i .i64 (p0.kids.length : Int)))), (10, (.d (.sl 10 (p0.kids.map cGExpr)))), (9, (.ptr 2 8)), (8, (.d (.i .i64 p1))), (5, (.d (.i .i64 y1))), (7, (.d (.i .i64 y1))), (6, (vGExpr p0)), (4, (.d (.i .i64 0))), (2, (.ptr 2 0)), (0, (vGExpr p0)), (1, (.d (.i .i64 p1)))], [(2, [(.d (.i .i64 p0.kind)), (.d (.i .i64 p0.op)), (.d (.b p0.not_)), (.d (.i .i64 p0.value.kind)), (.d (.i .i64 p0.value.num)), (.d (.s (bs p0.value.text))), (.d (.s (bs p0.qual))), (.d (.s (bs p0.name))), (.d (.sl 10 (p0.kids.map cGExpr))), (.d (.sl 6 (p0.sub.map cGQuery)))])]⟩) (by kernel_rfl) ?_
            refine nil_in ?_
            refine next_in ?_
            refine ret_in ?_
            refine thenK_ret ?_
            refine blockK_ret ?_
            refine thenK_ret ?_
            have h := Option.some.inj h; subst h
            exact ret1_step (v := (.d (.i .i64 y1))) (by kernel_rfl) (by kernel_rfl) (by kernel_rfl)
          · clear h; intro h
            refine skip_in ?_
            refine next_in ?_
            refine seq_in ?_
            refine ops_in ?_
            refine sts_ok 3 (s' := ⟨[(4, (.d (.i .i64 (IntKind.wrap .i64 (y1 + 1))))), (36, (.d (.i .i64 (IntKind.wrap .i64 (y1 + 1))))), (35, (.d (.i .i64 y1))), (33, (.d (.b (decide (p1 = 0))))), (32, (.d (.i .i64 p1))), (31, (.d (.b (decide (y1 = 4))))), (30, (.d (.i .i64 y1))), (28, (.d (.b (decide (p0.kind = 4))))), (29, (.d (.b (decide (p0.kind = 4))))), (25, (.d (.b (decide (p0.kind = 3))))), (26, (.d (.b (decide (p0.kind = 3))))), (24, (.d (.i .i64 p0.kind))), (23, (.ptr 2 0)), (22, (.d (.b (if (if (!y2) = true then true else (decide (y1 = 0))) = true then true else (decide (y1 = 9)))))), (21, (.ite (true && ((if (!y2) = true then true else (decide (y1 = 0))) == false)) (.d (.b (decide (y1 = 9)))))), (20, (.ite (true && ((if (!y2) = true then true else (decide (y1 = 0))) == false)) (.d (.i .i64 y1)))), (19, (.d (.b (if (!y2) = true then true else (decide (y1 = 0)))))), (18, (.d (.b (if (!y2) = true then true else (decide (y1 = 0)))))), (17, (.ite (true && ((!y2) == false)) (.d (.b (decide (y1 = 0)))))), (16, (.ite (true && ((!y2) == false)) (.d (.i .i64 y1)))), (15, (.d (.b (!y2)))), (14, (.d (.b (!y2)))), (13, (.d (.b y2))), (12, (.d (.i .i64 (IntKind.wrap .i64 ((p0.kids.length : Int) - 1))))), (11, (.d (.i .i64 (p0.kids.length : Int)))), (10, (.d (.sl 10 (p0.kids.map cGExpr)))), (9, (.ptr 2 8)), (8, (.d (.i .i64 p1))), (5, (.d (.i .i64 y1))), (7, (.d (.i .i64 y1))), (6, (vGExpr p0)), (4, (.d (.i .i64 0))), (2, (.ptr 2 0)), (0, (vGExpr p0)), (1, (.d (.i .i64 p1)))], [(2, [(.d (.i .i64 p0.kind)), (.d (.i .i64 p0.op)), (.d (.b p0.not_)), (.d (.i .i64 p0.value.kind)), (.d (.i .i64 p0.value.num)), (.d (.s (bs p0.value.text))), (.d (.s (bs p0.qual))), (.d (.s (bs p0.name))), (.d (.sl 10 (p0.kids.map cGExpr))), (.d (.sl 6 (p0.sub.map cGQuery)))])]⟩) (by kernel_rfl) ?_
            refine nil_in ?_
            refine next_in ?_
            refine ret_in ?_
            refine blockK_ret ?_
            refine thenK_ret ?_
            have h := Option.some.inj h; subst h
            exact ret1_step (v := (.d (.i .i64 (IntKind.wrap .i64 (y1 + 1))))) (by kernel_rfl) (by kernel_rfl) (by kernel_rfl)
      · clear h; intro h
        refine seq_in ?_
        refine ops_in ?_
        refine sts_ok 2 (s' := ⟨[(37, (.d (.b (decide (p0.kind = 7))))), (38, (.d (.b (decide (p0.kind = 7))))), (28, (.d (.b (decide (p0.kind = 4))))), (29, (.d (.b (decide (p0.kind = 4))))), (25, (.d (.b (decide (p0.kind = 3))))), (26, (.d (.b (decide (p0.kind = 3))))), (24, (.d (.i .i64 p0.kind))), (23, (.ptr 2 0)), (22, (.d (.b (if (if (!y2) = true then true else (decide (y1 = 0))) = true then true else (decide (y1 = 9)))))), (21, (.ite (true && ((if (!y2) = true then true else (decide (y1 = 0))) == false)) (.d (.b (decide (y1 = 9)))))), (20, (.ite (true && ((if (!y2) = true then true else (decide (y1 = 0))) == false)) (.d (.i .i64 y1)))), (19, (.d (.b (if (!y2) = true then true else (decide (y1 = 0)))))), (18, (.d (.b (if (!y2) = true then true else (decide (y1 = 0)))))), (17, (.ite (true && ((!y2) == false)) (.d (.b (decide (y1 = 0)))))), (16, (.ite (true && ((!y2) == false)) (.d (.i .i64 y1)))), (15, (.d (.b (!y2)))), (14, (.d (.b (!y2)))), (13, (.d (.b y2))), (12, (.d (.i .i64 (IntKind.wrap .i64 ((p0.kids.length : Int) - 1))))), (11, (.d (.i .i64 (p0.kids.length : Int)))), (10, (.d (.sl 10 (p0.kids.map cGExpr)))), (9, (.ptr 2 8)), (8, (.d (.i .i64 p1))), (5, (.d (.i .i64 y1))), (7, (.d (.i .i64 y1))), (6, (vGExpr p0)), (4, (.d (.i .i64 0))), (2, (.ptr 2 0)), (0, (vGExpr p0)), (1, (.d (.i .i64 p1)))], [(2, [(.d (.i .i64 p0.kind)), (.d (.i .i64 p0.op)), (.d (.b p0.not_)), (.d (.i .i64 p0.value.kind)), (.d (.i .i64 p0.value.num)), (.d (.s (bs p0.value.text))), (.d (.s (bs p0.qual))), (.d (.s (bs p0.name))), (.d (.sl 10 (p0.kids.map cGExpr))), (.d (.sl 6 (p0.sub.map cGQuery)))])]⟩) (by kernel_rfl) ?_
        refine nil_in ?_
        refine next_in ?_
        refine cond_step h (by kernel_rfl) ?_ ?_
        · clear h; intro h
          refine seq_in ?_
          refine ops_in ?_
          refine sts_ok 2 (s' := ⟨[(40, (.d (.b (decide (0 < p1))))), (39, (.d (.i .i64 p1))), (37, (.d (.b (decide (p0.kind = 7))))), (38, (.d (.b (decide (p0.kind = 7))))), (28, (.d (.b (decide (p0.kind = 4))))), (29, (.d (.b (decide (p0.kind = 4))))), (25, (.d (.b (decide (p0.kind = 3))))), (26, (.d (.b (decide (p0.kind = 3))))), (24, (.d (.i .i64 p0.kind))), (23, (.ptr 2 0)), (22, (.d (.b (if (if (!y2) = true then true else (decide (y1 = 0))) = true then true else (decide (y1 = 9)))))), (21, (.ite (true && ((if (!y2) = true then true else (decide (y1 = 0))) == false)) (.d (.b (decide (y1 = 9)))))), (20, (.ite (true && ((if (!y2) = true then true else (decide (y1 = 0))) == false)) (.d (.i .i64 y1)))), (19, (.d (.b (if (!y2) = true then true else (decide (y1 = 0)))))), (18, (.d (.b (if (!y2) = true then true else (decide (y1 = 0)))))), (17, (.ite (true && ((!y2) == false)) (.d (.b (decide (y1 = 0)))))), (16, (.ite (true && ((!y2) == false)) (.d (.i .i64 y1)))), (15, (.d (.b (!y2)))), (14, (.d (.b (!y2)))), (13, (.d (.b y2))), (12, (.d (.i .i64 (IntKind.wrap .i64 ((p0.kids.length : Int) - 1))))), (11, (.d (.i .i64 (p0.kids.length : Int)))), (10, (.d (.sl 10 (p0.kids.map cGExpr)))), (9, (.ptr 2 8)), (8, (.d (.i .i64 p1))), (5, (.d (.i .i64 y1))), (7, (.d (.i .i64 y1))), (6, (vGExpr p0)), (4, (.d (.i .i64 0))), (2, (.ptr 2 0)), (0, (vGExpr p0)), (1, (.d (.i .i64 p1)))], [(2, [(.d (.i .i64 p0.kind)), (.d (.i .i64 p0.op)), (.d (.b p0.not_)), (.d (.i .i64 p0.value.kind)), (.d (.i .i64 p0.value.num)), (.d (.s (bs p0.value.text))), (.d (.s (bs p0.qual))), (.d (.s (bs p0.name))), (.d (.sl 10 (p0.kids.map cGExpr))), (.d (.sl 6 (p0.sub.map cGQuery)))])]⟩) (by kernel_rfl) ?_
          refine nil_in ?_
          refine next_in ?_
          refine cond_step h (by kernel_rfl) ?_ ?_
          · clear h; intro h
            refine seq_in ?_
            refine ops_in ?_
            refine sts_ok 1 (s' := ⟨[(4, (.d (.i .i64 1))), (40, (.d (.b (decide (0 < p1))))), (39, (.d (.i .i64 p1))), (37, (.d (.b (decide (p0.kind = 7))))), (38, (.d (.b (decide (p0.kind = 7))))), (28, (.d (.b (decide (p0.kind = 4))))), (29, (.d (.b (decide (p0.kind = 4))))), (25, (.d (.b (decide (p0.kind = 3))))), (26, (.d (.b (decide (p0.kind = 3))))), (24, (.d (.i .i64 p0.kind))), (23, (.ptr 2 0)), (22, (.d (.b (if (if (!y2) = true then true else (decide (y1 = 0))) = true then true else (decide (y1 = 9)))))), (21, (.ite (true && ((if (!y2) = true then true else (decide (y1 = 0))) == false)) (.d (.b (decide (y1 = 9)))))), (20, (.ite (true && ((if (!y2) = true then true else (decide (y1 = 0))) == false)) (.d (.i .i64 y1)))), (19, (.d (.b (if (!y2) = true then true else (decide (y1 = 0)))))), (18, (.d (.b (if (!y2) = true then true else (decide (y1 = 0)))))), (17, (.ite (true && ((!y2) == false)) (.d (.b (decide (y1 = 0)))))), (16, (.ite (true && ((!y2) == false)) (.d (.i .i64 y1)))), (15, (.d (.b (!y2)))), (14, (.d (.b (!y2)))), (13, (.d (.b y2))), (12, (.d (.i .i64 (IntKind.wrap .i64 ((p0.kids.length : Int) - 1))))), (11, (.d (.i .i64 (p0.kids.length : Int)))), (10, (.d (.sl 10 (p0.kids.map cGExpr)))), (9, (.ptr 2 8)), (8, (.d (.i .i64 p1))), (5, (.d (.i .i64 y1))), (7, (.d (.i .i64 y1))), (6, (vGExpr p0)), (4, (.d (.i .i64 0))), (2, (.ptr 2 0)), (0, (vGExpr p0)), (1, (.d (.i .i64 p1)))], [(2, [(.d (.i .i64 p0.kind)), (.d (.i .i64 p0.op)), (.d (.b p0.not_)), (.d (.i .i64 p0.value.kind)), (.d (.i .i64 p0.value.num)), (.d (.s (bs p0.value.text))), (.d (.s (bs p0.qual))), (.d (.s (bs p0.name))), (.d (.sl 10 (p0.kids.map cGExpr))), (.d (.sl 6 (p0.sub.map cGQuery)))])]⟩) (by kernel_rfl) ?_
            refine nil_in ?_
            refine next_in ?_
            refine ret_in ?_
            refine blockK_ret ?_
            refine thenK_ret ?_
            have h := Option.some.inj h; subst h
            exact ret1_step (v := (.d (.i .i64 1))) (by kernel_rfl) (by kernel_rfl) (by kernel_rfl)
          · clear h; intro h
            refine skip_in ?_
            refine blockK_norm ?_
            exact next_step (s' := stsNeeds_J0) (wk_ren [] (by kernel_rfl) (er_nil) (br_nil)) (OK_sNeeds_J0 _ h)
        · clear h; intro h
          refine skip_in ?_
          refine blockK_norm ?_
          exact next_step (s' := stsNeeds_J0) (wk_ren [] (by kernel_rfl) (er_nil) (br_nil)) (OK_sNeeds_J0 _ h)
theorem OK_sWrapped (p0 : GExpr) (p1 : Int) : FOk Try.prog 72 [(vGExpr p0), (.d (.i .i64 p1))] (fun y => (.d (.b y))) (sWrapped p0 p1) := by
  intro r h
  rw [sWrapped] at h
  refine acalls_of_fn trsWrapped (Nat.le_of_ble_eq_true rfl) (by simp) ?_
  show avc Try.prog acsWrapped (qsWrapped _) ⟨[(0, (vGExpr p0)), (1, (.d (.i .i64 p1)))], []⟩
  delta acsWrapped
  refine seq_in ?_
  refine ops_in ?_
  refine sts_ok 2 (s' := ⟨[(4, (.d (.b false))), (2, (.ptr 2 0)), (0, (vGExpr p0)), (1, (.d (.i .i64 p1)))], [(2, [(.d (.i .i64 p0.kind)), (.d (.i .i64 p0.op)), (.d (.b p0.not_)), (.d (.i .i64 p0.value.kind)), (.d (.i .i64 p0.value.num)), (.d (.s (bs p0.value.text))), (.d (.s (bs p0.qual))), (.d (.s (bs p0.name))), (.d (.sl 10 (p0.kids.map cGExpr))), (.d (.sl 6 (p0.sub.map cGQuery)))])]⟩) (by kernel_rfl) ?_
  refine nil_in ?_
  refine next_in ?_
  refine seq_in ?_
  refine dops_in ?_
  refine dsts_ok 3 (s' := ⟨[(7, (.d (.sl 10 (p0.kids.map cGExpr)))), (6, (.ptr 2 8)), (5, (.d (.i .i64 p1))), (4, (.d (.b false))), (2, (.ptr 2 0)), (0, (vGExpr p0)), (1, (.d (.i .i64 p1)))], [(2, [(.d (.i .i64 p0.kind)), (.d (.i .i64 p0.op)), (.d (.b p0.not_)), (.d (.i .i64 p0.value.kind)), (.d (.i .i64 p0.value.num)), (.d (.s (bs p0.value.text))), (.d (.s (bs p0.qual))), (.d (.s (bs p0.name))), (.d (.sl 10 (p0.kids.map cGExpr))), (.d (.sl 6 (p0.sub.map cGQuery)))])]⟩) (by kernel_rfl) ?_
  refine dp_step (v' := (.d (.i .i64 (p0.kids.length : Int)))) rfl rfl (vop_len (sz := 10) (l := p0.kids) (f := cGExpr) (by kernel_rfl) (by kernel_rfl)) ?_
  refine dsts_ok 1 (s' := ⟨[(9, (.d (.i .i64 (IntKind.wrap .i64 ((p0.kids.length : Int) - 1))))), (8, (.d (.i .i64 (p0.kids.length : Int)))), (7, (.d (.sl 10 (p0.kids.map cGExpr)))), (6, (.ptr 2 8)), (5, (.d (.i .i64 p1))), (4, (.d (.b false))), (2, (.ptr 2 0)), (0, (vGExpr p0)), (1, (.d (.i .i64 p1)))], [(2, [(.d (.i .i64 p0.kind)), (.d (.i .i64 p0.op)), (.d (.b p0.not_)), (.d (.i .i64 p0.value.kind)), (.d (.i .i64 p0.value.num)), (.d (.s (bs p0.value.text))), (.d (.s (bs p0.qual))), (.d (.s (bs p0.name))), (.d (.sl 10 (p0.kids.map cGExpr))), (.d (.sl 6 (p0.sub.map cGQuery)))])]⟩) (by kernel_rfl) ?_
  refine dcall_step (m := sL1In p1 0 (IntKind.wrap .i64 ((p0.kids.length : Int) - 1))) (args := [(.d (.i .i64 p1)), (.d (.i .i64 0)), (.d (.i .i64 (IntKind.wrap .i64 ((p0.kids.length : Int) - 1))))]) (v' := (fun y => (.d (.b y)))) h (OK_sL1In p1 0 (IntKind.wrap .i64 ((p0.kids.length : Int) - 1))) (by kernel_rfl) (by kernel_rfl) (fun _ => rfl) ?_
  clear h; intro y1 h
  refine dsts_ok 1 (s' := ⟨[(11, (.d (.b y1))), (10, (.d (.b y1))), (9, (.d (.i .i64 (IntKind.wrap .i64 ((p0.kids.length : Int) - 1))))), (8, (.d (.i .i64 (p0.kids.length : Int)))), (7, (.d (.sl 10 (p0.kids.map cGExpr)))), (6, (.ptr 2 8)), (5, (.d (.i .i64 p1))), (4, (.d (.b false))), (2, (.ptr 2 0)), (0, (vGExpr p0)), (1, (.d (.i .i64 p1)))], [(2, [(.d (.i .i64 p0.kind)), (.d (.i .i64 p0.op)), (.d (.b p0.not_)), (.d (.i .i64 p0.value.kind)), (.d (.i .i64 p0.value.num)), (.d (.s (bs p0.value.text))), (.d (.s (bs p0.qual))), (.d (.s (bs p0.name))), (.d (.sl 10 (p0.kids.map cGExpr))), (.d (.sl 6 (p0.sub.map cGQuery)))])]⟩) (by kernel_rfl) ?_
  refine dgp_step (p := true) (b := y1) (v' := (.ptr 2 8)) (by kernel_rfl) rfl rfl (fun hc => vop_val1 (by kernel_rfl) (by kernel_rfl)) ?_
  refine dgp_step (p := true) (b := y1) (v' := (.d (.sl 10 (p0.kids.map cGExpr)))) (by kernel_rfl) rfl rfl (fun hc => vop_val1 (Eq.trans (b := ([(true && (y1 == true))] : List Bool).all id) (by kernel_rfl) (all_c hc rfl)) (by kernel_rfl)) ?_
  refine dgp_step (p := true) (b := y1) (v' := (.d (.i .i64 p1))) (by kernel_rfl) rfl rfl (fun hc => vop_val1 (by kernel_rfl) (by kernel_rfl)) ?_
  refine dgv_step (p := true) (b := y1) (m := idx p0.kids p1) (dflt := default) (v' := fun y => (.rp [(.i .i64 y.kind), (.i .i64 y.op), (.b y.not_), (.i .i64 y.value.kind), (.i .i64 y.value.num), (.s (bs y.value.text)), (.s (bs y.qual)), (.s (bs y.name)), (.sl 10 (y.kids.map cGExpr)), (.sl 6 (y.sub.map cGQuery))])) h (by kernel_rfl) rfl rfl (fun y hy hc => vop_ia (l := p0.kids) (f := cGExpr) (g := oGExpr) (k := .i64) hy cGExpr_eq (Eq.trans (b := ([(true && (y1 == true)), (true && (y1 == true))] : List Bool).all id) (by kernel_rfl) (all_c hc (all_c hc rfl))) (by kernel_rfl) (by kernel_rfl)) ?_
  clear h; intro y2 h
  refine dgp_step (p := true) (b := y1) (v' := (vGExpr y2)) (by kernel_rfl) rfl rfl (fun hc => vop_val1 (Eq.trans (b := ([(true && (y1 == true))] : List Bool).all id) (by kernel_rfl) (all_c hc rfl)) (by kernel_rfl)) ?_
  refine dgcall_step (p := true) (b := y1) (m := sLevelOf y2) (dflt := default) (args := [(vGExpr y2)]) (v' := (fun y => (.d (.i .i64 y)))) h (by kernel_rfl) (OK_sLevelOf y2) (fun hc => by kernel_rfl) (by kernel_rfl) (fun _ => rfl) (fun hc => (Eq.trans (b := ([(true && (y1 == true))] : List Bool).all id) (by kernel_rfl) (all_c hc rfl))) ?_
  clear h; intro y3 h
  refine dgp_step (p := true) (b := y1) (v' := (vGExpr p0)) (by kernel_rfl) rfl rfl (fun hc => vop_val1 (by kernel_rfl) (by kernel_rfl)) ?_
  refine dgp_step (p := true) (b := y1) (v' := (.d (.i .i64 p1))) (by kernel_rfl) rfl rfl (fun hc => vop_val1 (by kernel_rfl) (by kernel_rfl)) ?_
  refine dgcall_step (p := true) (b := y1) (m := sNeeds p0 p1) (dflt := default) (args := [(vGExpr p0), (.d (.i .i64 p1))]) (v' := (fun y => (.d (.i .i64 y)))) h (by kernel_rfl) (OK_sNeeds p0 p1) (fun hc => by kernel_rfl) (by kernel_rfl) (fun _ => rfl) (fun hc => (Eq.trans (b := ([(true && (y1 == true)), (true && (y1 == true))] : List Bool).all id) (by kernel_rfl) (all_c hc (all_c hc rfl)))) ?_
  clear h; intro y4 h
  refine dgp_step (p := true) (b := y1) (v' := (.d (.b (decide (y3 < y4))))) (by kernel_rfl) rfl rfl (fun hc => vop_val1 (Eq.trans (b := ([(true && (y1 == true)), (true && (y1 == true))] : List Bool).all id) (by kernel_rfl) (all_c hc (all_c hc rfl))) (by kernel_rfl)) ?_
  refine dp_step (v' := (.d (.b (if y1 = true then (decide (y3 < y4)) else false)))) rfl rfl (vop_pick (b := y1) (p := (true && (y1 == true))) (u := (decide (y3 < y4))) (q := true) (v := false) (by kernel_rfl) (by kernel_rfl) (by kernel_rfl) (by kernel_rfl) (fun hb => gc_t rfl hb) (fun _ => rfl)) ?_
  refine dsts_ok 1 (s' := ⟨[(4, (.d (.b (if y1 = true then (decide (y3 < y4)) else false)))), (22, (.d (.b (if y1 = true then (decide (y3 < y4)) else false)))), (21, (.ite (true && (y1 == true)) (.d (.b (decide (y3 < y4)))))), (20, (.ite (true && (y1 == true)) (.d (.i .i64 y4)))), (19, (.ite (true && (y1 == true)) (.d (.i .i64 p1)))), (18, (.ite (true && (y1 == true)) (vGExpr p0))), (17, (.ite (true && (y1 == true)) (.d (.i .i64 y3)))), (16, (.ite (true && (y1 == true)) (vGExpr y2))), (15, (.ite (true && (y1 == true)) (.rp [(.i .i64 y2.kind), (.i .i64 y2.op), (.b y2.not_), (.i .i64 y2.value.kind), (.i .i64 y2.value.num), (.s (bs y2.value.text)), (.s (bs y2.qual)), (.s (bs y2.name)), (.sl 10 (y2.kids.map cGExpr)), (.sl 6 (y2.sub.map cGQuery))]))), (14, (.ite (true && (y1 == true)) (.d (.i .i64 p1)))), (13, (.ite (true && (y1 == true)) (.d (.sl 10 (p0.kids.map cGExpr))))), (12, (.ite (true && (y1 == true)) (.ptr 2 8))), (11, (.d (.b y1))), (10, (.d (.b y1))), (9, (.d (.i .i64 (IntKind.wrap .i64 ((p0.kids.length : Int) - 1))))), (8, (.d (.i .i64 (p0.kids.length : Int)))), (7, (.d (.sl 10 (p0.kids.map cGExpr)))), (6, (.ptr 2 8)), (5, (.d (.i .i64 p1))), (4, (.d (.b false))), (2, (.ptr 2 0)), (0, (vGExpr p0)), (1, (.d (.i .i64 p1)))], [(2, [(.d (.i .i64 p0.kind)), (.d (.i .i64 p0.op)), (.d (.b p0.not_)), (.d (.i .i64 p0.value.kind)), (.d (.i .i64 p0.value.num)), (.d (.s (bs p0.value.text))), (.d (.s (bs p0.qual))), (.d (.s (bs p0.name))), (.d (.sl 10 (p0.kids.map cGExpr))), (.d (.sl 6 (p0.sub.map cGQuery)))])]⟩) (by kernel_rfl) ?_
  refine dnil_in (by kernel_rfl) (by kernel_rfl) ?_
  refine next_in ?_
  refine ret_in ?_
  have h := Option.some.inj h; subst h
  exact ret1_step (v := (.d (.b (if y1 = true then (decide (y3 < y4)) else false)))) (by kernel_rfl) (by kernel_rfl) (by kernel_rfl)
theorem OKs_sWraps_L2 : (∀ (p0 : GExpr) (x3_3 : Int) (x5 : Int) (r : Int), sWraps_L2 p0 x3_3 x5 = some r → avc Try.prog acsWraps_L2 (qsWraps_6 r) (stsWraps_L2 p0 x3_3 x5)) ∧ (∀ (p0 : GQuery) (r : Int), sWrapsIn p0 = some r → ACalls Try.prog 24 [(vGQuery p0)] [] fun x _ => x = (fun y => (.d (.i .i64 y))) r) ∧ (∀ (y1 : (List GExpr)) (x3 : Int) (x5 : Int) (r : Int), sWrapsIn_L0 y1 x3 x5 = some r → avc Try.prog acsWrapsIn_L0 (qsWrapsIn_1 r) (stsWrapsIn_L0 y1 x3 x5)) ∧ (∀ (p0 : GExpr) (r : Int), sWraps p0 = some r → ACalls Try.prog 20 [(vGExpr p0)] [] fun x _ => x = (fun y => (.d (.i .i64 y))) r) ∧ (∀ (p0 : GExpr) (x3 : Int) (x4 : Int) (r : Int), sWraps_L0 p0 x3 x4 = some r → avc Try.prog acsWraps_L0 (qsWraps_1 r) (stsWraps_L0 p0 x3 x4)) ∧ (∀ (x4 : Int) (p0 : GExpr) (x3_2 : Int) (r : Int), sWraps_J1 x4 p0 x3_2 = some r → avc Try.prog acsWraps_J1 (qsWraps_4 r) (stsWraps_J1 x4 p0 x3_2)) := by
  refine sWraps_L2.mutual_partial_correctness (fun p0 x3_3 x5 r => avc Try.prog acsWraps_L2 (qsWraps_6 r) (stsWraps_L2 p0 x3_3 x5)) (fun p0 r => ACalls Try.prog 24 [(vGQuery p0)] [] fun x _ => x = (fun y => (.d (.i .i64 y))) r) (fun y1 x3 x5 r => avc Try.prog acsWrapsIn_L0 (qsWrapsIn_1 r) (stsWrapsIn_L0 y1 x3 x5)) (fun p0 r => ACalls Try.prog 20 [(vGExpr p0)] [] fun x _ => x = (fun y => (.d (.i .i64 y))) r) (fun p0 x3 x4 r => avc Try.prog acsWraps_L0 (qsWraps_1 r) (stsWraps_L0 p0 x3 x4)) (fun x4 p0 x3_2 r => avc Try.prog acsWraps_J1 (qsWraps_4 r) (stsWraps_J1 x4 p0 x3_2)) ?_ ?_ ?_ ?_ ?_ ?_
  · intro F_sWraps_L2 F_sWrapsIn OK_sWraps_L2 OK_sWrapsIn p0 x3_3 x5 r h
    delta acsWraps_L2
    refine loop_unroll ?_
    refine seq_in ?_
    refine seq_in ?_
    refine ops_in ?_
    refine sts_ok 3 (s' := ⟨(28, (.d (.sl 6 (p0.sub.map cGQuery)))) :: (27, (.ptr 1 9)) :: (26, (.d (.i .i64 x5))) :: (stsWraps_L2 p0 x3_3 x5).env, (stsWraps_L2 p0 x3_3 x5).bx⟩) (by kernel_rfl) ?_
    refine p_step (v' := (.d (.i .i64 (p0.sub.length : Int)))) rfl rfl (vop_len (sz := 6) (l := p0.sub) (f := cGQuery) (by kernel_rfl) (by kernel_rfl)) ?_
    refine sts_ok 1 (s' := ⟨(30, (.d (.b (decide (x5 < (p0.sub.length : Int)))))) :: (29, (.d (.i .i64 (p0.sub.length : Int)))) :: (28, (.d (.sl 6 (p0.sub.map cGQuery)))) :: (27, (.ptr 1 9)) :: (26, (.d (.i .i64 x5))) :: (stsWraps_L2 p0 x3_3 x5).env, (stsWraps_L2 p0 x3_3 x5).bx⟩) (by kernel_rfl) ?_
    refine nil_in ?_
    refine next_in ?_
    refine cond_step h (by kernel_rfl) ?_ ?_
    · clear h; intro h
      refine skip_in ?_
      refine next_in ?_
      refine seq_in ?_
      refine block_in ?_
      refine ops_in ?_
      refine sts_ok 4 (s' := ⟨(36, (.d (.i .i64 x5))) :: (35, (.d (.sl 6 (p0.sub.map cGQuery)))) :: (34, (.ptr 1 9)) :: (33, (.d (.i .i64 x3_3))) :: (30, (.d (.b (decide (x5 < (p0.sub.length : Int)))))) :: (29, (.d (.i .i64 (p0.sub.length : Int)))) :: (28, (.d (.sl 6 (p0.sub.map cGQuery)))) :: (27, (.ptr 1 9)) :: (26, (.d (.i .i64 x5))) :: (stsWraps_L2 p0 x3_3 x5).env, (stsWraps_L2 p0 x3_3 x5).bx⟩) (by kernel_rfl) ?_
      refine v_step (m := idx p0.sub x5) (v' := fun y => (.rp [(.b y.distinct), (.sl 13 (y.items.map cGItem)), (.sl 3 (y.from_.map cGSource)), (.sl 10 (y.where_.map cGExpr)), (.sl 11 (y.order.map cGSortKey)), (.i .i64 y.limit)])) h rfl rfl (fun y hy => vop_ia (l := p0.sub) (f := cGQuery) (g := oGQuery) (k := .i64) hy cGQuery_eq (by kernel_rfl) (by kernel_rfl) (by kernel_rfl)) ?_
      clear h; intro y6 h
      refine sts_ok 1 (s' := ⟨(38, (vGQuery y6)) :: (37, (.rp [(.b y6.distinct), (.sl 13 (y6.items.map cGItem)), (.sl 3 (y6.from_.map cGSource)), (.sl 10 (y6.where_.map cGExpr)), (.sl 11 (y6.order.map cGSortKey)), (.i .i64 y6.limit)])) :: (36, (.d (.i .i64 x5))) :: (35, (.d (.sl 6 (p0.sub.map cGQuery)))) :: (34, (.ptr 1 9)) :: (33, (.d (.i .i64 x3_3))) :: (30, (.d (.b (decide (x5 < (p0.sub.length : Int)))))) :: (29, (.d (.i .i64 (p0.sub.length : Int)))) :: (28, (.d (.sl 6 (p0.sub.map cGQuery)))) :: (27, (.ptr 1 9)) :: (26, (.d (.i .i64 x5))) :: (stsWraps_L2 p0 x3_3 x5).env, (stsWraps_L2 p0 x3_3 x5).bx⟩) (by kernel_rfl) ?_
      refine call_step (m := F_sWrapsIn y6) (args := [(vGQuery y6)]) (v' := (fun y => (.d (.i .i64 y)))) h (OK_sWrapsIn y6) (by kernel_rfl) (by kernel_rfl) (fun _ => rfl) ?_
      clear h; intro y7 h
      refine sts_ok 2 (s' := ⟨(3, (.d (.i .i64 (IntKind.wrap .i64 (x3_3 + y7))))) :: (40, (.d (.i .i64 (IntKind.wrap .i64 (x3_3 + y7))))) :: (39, (.d (.i .i64 y7))) :: (38, (vGQuery y6)) :: (37, (.rp [(.b y6.distinct), (.sl 13 (y6.items.map cGItem)), (.sl 3 (y6.from_.map cGSource)), (.sl 10 (y6.where_.map cGExpr)), (.sl 11 (y6.order.map cGSortKey)), (.i .i64 y6.limit)])) :: (36, (.d (.i .i64 x5))) :: (35, (.d (.sl 6 (p0.sub.map cGQuery)))) :: (34, (.ptr 1 9)) :: (33, (.d (.i .i64 x3_3))) :: (30, (.d (.b (decide (x5 < (p0.sub.length : Int)))))) :: (29, (.d (.i .i64 (p0.sub.length : Int)))) :: (28, (.d (.sl 6 (p0.sub.map cGQuery)))) :: (27, (.ptr 1 9)) :: (26, (.d (.i .i64 x5))) :: (stsWraps_L2 p0 x3_3 x5).env, (stsWraps_L2 p0 x3_3 x5).bx⟩) (by kernel_rfl) ?_
      refine nil_in ?_
      refine blockK_norm ?_
      refine next_in ?_
      refine ops_in ?_
      refine sts_ok 3 (s' := ⟨(5, (.d (.i .i64 (IntKind.wrap .i64 (x5 + 1))))) :: (32, (.d (.i .i64 (IntKind.wrap .i64 (x5 + 1))))) :: (31, (.d (.i .i64 x5))) :: (3, (.d (.i .i64 (IntKind.wrap .i64 (x3_3 + y7))))) :: (40, (.d (.i .i64 (IntKind.wrap .i64 (x3_3 + y7))))) :: (39, (.d (.i .i64 y7))) :: (38, (vGQuery y6)) :: (37, (.rp [(.b y6.distinct), (.sl 13 (y6.items.map cGItem)), (.sl 3 (y6.from_.map cGSource)), (.sl 10 (y6.where_.map cGExpr)), (.sl 11 (y6.order.map cGSortKey)), (.i .i64 y6.limit)])) :: (36, (.d (.i .i64 x5))) :: (35, (.d (.sl 6 (p0.sub.map cGQuery)))) :: (34, (.ptr 1 9)) :: (33, (.d (.i .i64 x3_3))) :: (30, (.d (.b (decide (x5 < (p0.sub.length : Int)))))) :: (29, (.d (.i .i64 (p0.sub.length : Int)))) :: (28, (.d (.sl 6 (p0.sub.map cGQuery)))) :: (27, (.ptr 1 9)) :: (26, (.d (.i .i64 x5))) :: (stsWraps_L2 p0 x3_3 x5).env, (stsWraps_L2 p0 x3_3 x5).bx⟩) (by kernel_rfl) ?_
      refine nil_in ?_
      exact loop_back (s' := stsWraps_L2 p0 (IntKind.wrap .i64 (x3_3 + y7)) (IntKind.wrap .i64 (x5 + 1))) (wk_ren [] (by kernel_rfl) (er_cons (vr_same (by kernel_rfl) (by kernel_rfl)) (er_cons (vr_same (by kernel_rfl) (by kernel_rfl)) (er_cons (vr_same (by kernel_rfl) (by kernel_rfl)) (er_nil)))) (br_same (by kernel_rfl) (by kernel_rfl) (br_nil))) (OK_sWraps_L2 p0 (IntKind.wrap .i64 (x3_3 + y7)) (IntKind.wrap .i64 (x5 + 1)) _ h)
    · clear h; intro h
      refine exit_in ?_
      refine thenK_exit ?_
      refine thenK_exit ?_
      refine blockK_here ?_
      refine next_in ?_
      refine seq_in ?_
      refine ops_in ?_
      refine sts_ok 2 (s' := ⟨(2, (.d (.i .i64 x3_3))) :: (41, (.d (.i .i64 x3_3))) :: (30, (.d (.b (decide (x5 < (p0.sub.length : Int)))))) :: (29, (.d (.i .i64 (p0.sub.length : Int)))) :: (28, (.d (.sl 6 (p0.sub.map cGQuery)))) :: (27, (.ptr 1 9)) :: (26, (.d (.i .i64 x5))) :: (stsWraps_L2 p0 x3_3 x5).env, (stsWraps_L2 p0 x3_3 x5).bx⟩) (by kernel_rfl) ?_
      refine nil_in ?_
      refine next_in ?_
      refine ret_in ?_
      have h := Option.some.inj h; subst h
      exact ret1_step (v := (.d (.i .i64 x3_3))) (by kernel_rfl) (by kernel_rfl) (by kernel_rfl)
  · intro F_sWrapsIn_L0 OK_sWrapsIn_L0 p0 r h
    refine acalls_of_fn trsWrapsIn (Nat.le_of_ble_eq_true rfl) (by simp) ?_
    show avc Try.prog acsWrapsIn (qsWrapsIn _) ⟨[(0, (vGQuery p0))], []⟩
    delta acsWrapsIn
    refine seq_in ?_
    refine ops_in ?_
    refine sts_ok 2 (s' := ⟨[(2, (.d (.i .i64 0))), (1, (.ptr 1 0)), (0, (vGQuery p0))], [(1, [(.d (.b p0.distinct)), (.d (.sl 13 (p0.items.map cGItem))), (.d (.sl 3 (p0.from_.map cGSource))), (.d (.sl 10 (p0.where_.map cGExpr))), (.d (.sl 11 (p0.order.map cGSortKey))), (.d (.i .i64 p0.limit))])]⟩) (by kernel_rfl) ?_
    refine nil_in ?_
    refine next_in ?_
    refine seq_in ?_
    refine ops_in ?_
    refine sts_ok 1 (s' := ⟨[(3, (.d (.i .i64 0))), (2, (.d (.i .i64 0))), (1, (.ptr 1 0)), (0, (vGQuery p0))], [(1, [(.d (.b p0.distinct)), (.d (.sl 13 (p0.items.map cGItem))), (.d (.sl 3 (p0.from_.map cGSource))), (.d (.sl 10 (p0.where_.map cGExpr))), (.d (.sl 11 (p0.order.map cGSortKey))), (.d (.i .i64 p0.limit))])]⟩) (by kernel_rfl) ?_
    refine nil_in ?_
    refine next_in ?_
    refine seq_in ?_
    refine ops_in ?_
    refine sts_ok 1 (s' := ⟨[(6, (vGQuery p0)), (3, (.d (.i .i64 0))), (2, (.d (.i .i64 0))), (1, (.ptr 1 0)), (0, (vGQuery p0))], [(1, [(.d (.b p0.distinct)), (.d (.sl 13 (p0.items.map cGItem))), (.d (.sl 3 (p0.from_.map cGSource))), (.d (.sl 10 (p0.where_.map cGExpr))), (.d (.sl 11 (p0.order.map cGSortKey))), (.d (.i .i64 p0.limit))])]⟩) (by kernel_rfl) ?_
    refine callg_step ⟨[], [], [], [], [], [(2000000, 7)], [], [7]⟩ (m := sL7Exprs p0) (S' := fun (y : (List GExpr)) => ⟨[(7, (.osl 7 49 10 (y.map cGExpr))), (6, (vGQuery p0)), (3, (.d (.i .i64 0))), (2, (.d (.i .i64 0))), (1, (.ptr 1 0)), (0, (vGQuery p0))], [(1, [(.d (.b p0.distinct)), (.d (.sl 13 (p0.items.map cGItem))), (.d (.sl 3 (p0.from_.map cGSource))), (.d (.sl 10 (p0.where_.map cGExpr))), (.d (.sl 11 (p0.order.map cGSortKey))), (.d (.i .i64 p0.limit))])]⟩) h (OK_sL7Exprs p0) (by kernel_rfl) (by kernel_rfl) (by kernel_rfl) (by kernel_rfl) (fun y => by kernel_rfl) (fun y => by kernel_rfl) ?_
    clear h; intro y1 h
    refine sts_ok 1 (s' := ⟨[(4, (.osl 4 49 10 (y1.map cGExpr))), (7, (.d (.sl 10 (y1.map cGExpr)))), (6, (vGQuery p0)), (3, (.d (.i .i64 0))), (2, (.d (.i .i64 0))), (1, (.ptr 1 0)), (0, (vGQuery p0))], [(1, [(.d (.b p0.distinct)), (.d (.sl 13 (p0.items.map cGItem))), (.d (.sl 3 (p0.from_.map cGSource))), (.d (.sl 10 (p0.where_.map cGExpr))), (.d (.sl 11 (p0.order.map cGSortKey))), (.d (.i .i64 p0.limit))])]⟩) (by kernel_rfl) ?_
    refine nil_in ?_
    refine next_in ?_
    refine seq_in ?_
    refine seq_in ?_
    refine ops_in ?_
    refine sts_ok 1 (s' := ⟨[(5, (.d (.i .i64 0))), (4, (.osl 4 49 10 (y1.map cGExpr))), (7, (.d (.sl 10 (y1.map cGExpr)))), (6, (vGQuery p0)), (3, (.d (.i .i64 0))), (2, (.d (.i .i64 0))), (1, (.ptr 1 0)), (0, (vGQuery p0))], [(1, [(.d (.b p0.distinct)), (.d (.sl 13 (p0.items.map cGItem))), (.d (.sl 3 (p0.from_.map cGSource))), (.d (.sl 10 (p0.where_.map cGExpr))), (.d (.sl 11 (p0.order.map cGSortKey))), (.d (.i .i64 p0.limit))])]⟩) (by kernel_rfl) ?_
    refine nil_in ?_
    refine next_in ?_
    refine block_in ?_
    exact loop_go (s' := stsWrapsIn_L0 y1 0 0) (wk_ren [(4, .old 4)] (by kernel_rfl) (er_cons (vr_same (by kernel_rfl) (by kernel_rfl)) (er_cons (vr_old (t := 4) (by kernel_rfl) (by kernel_rfl)) (er_cons (vr_same (by kernel_rfl) (by kernel_rfl)) (er_nil)))) (br_nil)) (OK_sWrapsIn_L0 y1 0 0 _ h)
  · intro F_sWrapsIn_L0 F_sWraps OK_sWrapsIn_L0 OK_sWraps y1 x3 x5 r h
    delta acsWrapsIn_L0
    refine loop_unroll ?_
    refine seq_in ?_
    refine seq_in ?_
    refine ops_in ?_
    refine sts_ok 2 (s' := ⟨(9, (.osl 4 49 10 (y1.map cGExpr))) :: (8, (.d (.i .i64 x5))) :: (stsWrapsIn_L0 y1 x3 x5).env, (stsWrapsIn_L0 y1 x3 x5).bx⟩) (by kernel_rfl) ?_
    refine p_step (v' := (.d (.i .i64 (y1.length : Int)))) rfl rfl (vop_len (sz := 10) (l := y1) (f := cGExpr) (by kernel_rfl) (by kernel_rfl)) ?_
    refine sts_ok 1 (s' := ⟨(11, (.d (.b (decide (x5 < (y1.length : Int)))))) :: (10, (.d (.i .i64 (y1.length : Int)))) :: (9, (.osl 4 49 10 (y1.map cGExpr))) :: (8, (.d (.i .i64 x5))) :: (stsWrapsIn_L0 y1 x3 x5).env, (stsWrapsIn_L0 y1 x3 x5).bx⟩) (by kernel_rfl) ?_
    refine nil_in ?_
    refine next_in ?_
    refine cond_step h (by kernel_rfl) ?_ ?_
    · clear h; intro h
      refine skip_in ?_
      refine next_in ?_
      refine seq_in ?_
      refine block_in ?_
      refine ops_in ?_
      refine sts_ok 3 (s' := ⟨(16, (.d (.i .i64 x5))) :: (15, (.osl 4 49 10 (y1.map cGExpr))) :: (14, (.d (.i .i64 x3))) :: (11, (.d (.b (decide (x5 < (y1.length : Int)))))) :: (10, (.d (.i .i64 (y1.length : Int)))) :: (9, (.osl 4 49 10 (y1.map cGExpr))) :: (8, (.d (.i .i64 x5))) :: (stsWrapsIn_L0 y1 x3 x5).env, (stsWrapsIn_L0 y1 x3 x5).bx⟩) (by kernel_rfl) ?_
      refine v_step (m := idx y1 x5) (v' := fun y => (.rp [(.i .i64 y.kind), (.i .i64 y.op), (.b y.not_), (.i .i64 y.value.kind), (.i .i64 y.value.num), (.s (bs y.value.text)), (.s (bs y.qual)), (.s (bs y.name)), (.sl 10 (y.kids.map cGExpr)), (.sl 6 (y.sub.map cGQuery))])) h rfl rfl (fun y hy => vop_ia (l := y1) (f := cGExpr) (g := oGExpr) (k := .i64) hy cGExpr_eq (by kernel_rfl) (by kernel_rfl) (by kernel_rfl)) ?_
      clear h; intro y2 h
      refine sts_ok 1 (s' := ⟨(18, (vGExpr y2)) :: (17, (.rp [(.i .i64 y2.kind), (.i .i64 y2.op), (.b y2.not_), (.i .i64 y2.value.kind), (.i .i64 y2.value.num), (.s (bs y2.value.text)), (.s (bs y2.qual)), (.s (bs y2.name)), (.sl 10 (y2.kids.map cGExpr)), (.sl 6 (y2.sub.map cGQuery))])) :: (16, (.d (.i .i64 x5))) :: (15, (.osl 4 49 10 (y1.map cGExpr))) :: (14, (.d (.i .i64 x3))) :: (11, (.d (.b (decide (x5 < (y1.length : Int)))))) :: (10, (.d (.i .i64 (y1.length : Int)))) :: (9, (.osl 4 49 10 (y1.map cGExpr))) :: (8, (.d (.i .i64 x5))) :: (stsWrapsIn_L0 y1 x3 x5).env, (stsWrapsIn_L0 y1 x3 x5).bx⟩) (by kernel_rfl) ?_
      refine call_step (m := F_sWraps y2) (args := [(vGExpr y2)]) (v' := (fun y => (.d (.i .i64 y)))) h (OK_sWraps y2) (by kernel_rfl) (by kernel_rfl) (fun _ => rfl) ?_
      clear h; intro y3 h
      refine sts_ok 2 (s' := ⟨(3, (.d (.i .i64 (IntKind.wrap .i64 (x3 + y3))))) :: (20, (.d (.i .i64 (IntKind.wrap .i64 (x3 + y3))))) :: (19, (.d (.i .i64 y3))) :: (18, (vGExpr y2)) :: (17, (.rp [(.i .i64 y2.kind), (.i .i64 y2.op), (.b y2.not_), (.i .i64 y2.value.kind), (.i .i64 y2.value.num), (.s (bs y2.value.text)), (.s (bs y2.qual)), (.s (bs y2.name)), (.sl 10 (y2.kids.map cGExpr)), (.sl 6 (y2.sub.map cGQuery))])) :: (16, (.d (.i .i64 x5))) :: (15, (.osl 4 49 10 (y1.map cGExpr))) :: (14, (.d (.i .i64 x3))) :: (11, (.d (.b (decide (x5 < (y1.length : Int)))))) :: (10, (.d (.i .i64 (y1.length : Int)))) :: (9, (.osl 4 49 10 (y1.map cGExpr))) :: (8, (.d (.i .i64 x5))) :: (stsWrapsIn_L0 y1 x3 x5).env, (stsWrapsIn_L0 y1 x3 x5).bx⟩) (by kernel_rfl) ?_
      refine nil_in ?_
      refine blockK_norm ?_
      refine next_in ?_
      refine ops_in ?_
      refine sts_ok 3 (s' := ⟨(5, (.d (.i .i64 (IntKind.wrap .i64 (x5 + 1))))) :: (13, (.d (.i .i64 (IntKind.wrap .i64 (x5 + 1))))) :: (12, (.d (.i .i64 x5))) :: (3, (.d (.i .i64 (IntKind.wrap .i64 (x3 + y3))))) :: (20, (.d (.i .i64 (IntKind.wrap .i64 (x3 + y3))))) :: (19, (.d (.i .i64 y3))) :: (18, (vGExpr y2)) :: (17, (.rp [(.i .i64 y2.kind), (.i .i64 y2.op), (.b y2.not_), (.i .i64 y2.value.kind), (.i .i64 y2.value.num), (.s (bs y2.value.text)), (.s (bs y2.qual)), (.s (bs y2.name)), (.sl 10 (y2.kids.map cGExpr)), (.sl 6 (y2.sub.map cGQuery))])) :: (16, (.d (.i .i64 x5))) :: (15, (.osl 4 49 10 (y1.map cGExpr))) :: (14, (.d (.i .i64 x3))) :: (11, (.d (.b (decide (x5 < (y1.length : Int)))))) :: (10, (.d (.i .i64 (y1.length : Int)))) :: (9, (.osl 4 49 10 (y1.map cGExpr))) :: (8, (.d (.i .i64 x5))) :: (stsWrapsIn_L0 y1 x3 x5).env, (stsWrapsIn_L0 y1 x3 x5).bx⟩) (by kernel_rfl) ?_
      refine nil_in ?_
      exact loop_back (s' := stsWrapsIn_L0 y1 (IntKind.wrap .i64 (x3 + y3)) (IntKind.wrap .i64 (x5 + 1))) (wk_ren [(4, .old 4)] (by kernel_rfl) (er_cons (vr_same (by kernel_rfl) (by kernel_rfl)) (er_cons (vr_old (t := 4) (by kernel_rfl) (by kernel_rfl)) (er_cons (vr_same (by kernel_rfl) (by kernel_rfl)) (er_nil)))) (br_nil)) (OK_sWrapsIn_L0 y1 (IntKind.wrap .i64 (x3 + y3)) (IntKind.wrap .i64 (x5 + 1)) _ h)
    · clear h; intro h
      refine exit_in ?_
      refine thenK_exit ?_
      refine thenK_exit ?_
      refine blockK_here ?_
      refine next_in ?_
      refine seq_in ?_
      refine ops_in ?_
      refine sts_ok 2 (s' := ⟨(2, (.d (.i .i64 x3))) :: (21, (.d (.i .i64 x3))) :: (11, (.d (.b (decide (x5 < (y1.length : Int)))))) :: (10, (.d (.i .i64 (y1.length : Int)))) :: (9, (.osl 4 49 10 (y1.map cGExpr))) :: (8, (.d (.i .i64 x5))) :: (stsWrapsIn_L0 y1 x3 x5).env, (stsWrapsIn_L0 y1 x3 x5).bx⟩) (by kernel_rfl) ?_
      refine nil_in ?_
      refine next_in ?_
      refine ret_in ?_
      have h := Option.some.inj h; subst h
      exact ret1_step (v := (.d (.i .i64 x3))) (by kernel_rfl) (by kernel_rfl) (by kernel_rfl)
  · intro F_sWraps_L0 OK_sWraps_L0 p0 r h
    refine acalls_of_fn trsWraps (Nat.le_of_ble_eq_true rfl) (by simp) ?_
    show avc Try.prog acsWraps (qsWraps _) ⟨[(0, (vGExpr p0))], []⟩
    delta acsWraps
    refine seq_in ?_
    refine ops_in ?_
    refine sts_ok 2 (s' := ⟨[(2, (.d (.i .i64 0))), (1, (.ptr 1 0)), (0, (vGExpr p0))], [(1, [(.d (.i .i64 p0.kind)), (.d (.i .i64 p0.op)), (.d (.b p0.not_)), (.d (.i .i64 p0.value.kind)), (.d (.i .i64 p0.value.num)), (.d (.s (bs p0.value.text))), (.d (.s (bs p0.qual))), (.d (.s (bs p0.name))), (.d (.sl 10 (p0.kids.map cGExpr))), (.d (.sl 6 (p0.sub.map cGQuery)))])]⟩) (by kernel_rfl) ?_
    refine nil_in ?_
    refine next_in ?_
    refine seq_in ?_
    refine ops_in ?_
    refine sts_ok 1 (s' := ⟨[(3, (.d (.i .i64 0))), (2, (.d (.i .i64 0))), (1, (.ptr 1 0)), (0, (vGExpr p0))], [(1, [(.d (.i .i64 p0.kind)), (.d (.i .i64 p0.op)), (.d (.b p0.not_)), (.d (.i .i64 p0.value.kind)), (.d (.i .i64 p0.value.num)), (.d (.s (bs p0.value.text))), (.d (.s (bs p0.qual))), (.d (.s (bs p0.name))), (.d (.sl 10 (p0.kids.map cGExpr))), (.d (.sl 6 (p0.sub.map cGQuery)))])]⟩) (by kernel_rfl) ?_
    refine nil_in ?_
    refine next_in ?_
    refine seq_in ?_
    refine seq_in ?_
    refine ops_in ?_
    refine sts_ok 1 (s' := ⟨[(4, (.d (.i .i64 0))), (3, (.d (.i .i64 0))), (2, (.d (.i .i64 0))), (1, (.ptr 1 0)), (0, (vGExpr p0))], [(1, [(.d (.i .i64 p0.kind)), (.d (.i .i64 p0.op)), (.d (.b p0.not_)), (.d (.i .i64 p0.value.kind)), (.d (.i .i64 p0.value.num)), (.d (.s (bs p0.value.text))), (.d (.s (bs p0.qual))), (.d (.s (bs p0.name))), (.d (.sl 10 (p0.kids.map cGExpr))), (.d (.sl 6 (p0.sub.map cGQuery)))])]⟩) (by kernel_rfl) ?_
    refine nil_in ?_
    refine next_in ?_
    refine block_in ?_
    exact loop_go (s' := stsWraps_L0 p0 0 0) (wk_ren [] (by kernel_rfl) (er_cons (vr_same (by kernel_rfl) (by kernel_rfl)) (er_cons (vr_same (by kernel_rfl) (by kernel_rfl)) (er_cons (vr_same (by kernel_rfl) (by kernel_rfl)) (er_nil)))) (br_same (by kernel_rfl) (by kernel_rfl) (br_nil))) (OK_sWraps_L0 p0 0 0 _ h)
  · intro F_sWraps_L2 F_sWraps_J1 OK_sWraps_L2 OK_sWraps_J1 p0 x3 x4 r h
    delta acsWraps_L0
    refine loop_unroll ?_
    refine seq_in ?_
    refine seq_in ?_
    refine ops_in ?_
    refine sts_ok 3 (s' := ⟨(8, (.d (.sl 10 (p0.kids.map cGExpr)))) :: (7, (.ptr 1 8)) :: (6, (.d (.i .i64 x4))) :: (stsWraps_L0 p0 x3 x4).env, (stsWraps_L0 p0 x3 x4).bx⟩) (by kernel_rfl) ?_
    refine p_step (v' := (.d (.i .i64 (p0.kids.length : Int)))) rfl rfl (vop_len (sz := 10) (l := p0.kids) (f := cGExpr) (by kernel_rfl) (by kernel_rfl)) ?_
    refine sts_ok 1 (s' := ⟨(10, (.d (.b (decide (x4 < (p0.kids.length : Int)))))) :: (9, (.d (.i .i64 (p0.kids.length : Int)))) :: (8, (.d (.sl 10 (p0.kids.map cGExpr)))) :: (7, (.ptr 1 8)) :: (6, (.d (.i .i64 x4))) :: (stsWraps_L0 p0 x3 x4).env, (stsWraps_L0 p0 x3 x4).bx⟩) (by kernel_rfl) ?_
    refine nil_in ?_
    refine next_in ?_
    refine cond_step h (by kernel_rfl) ?_ ?_
    · clear h; intro h
      refine skip_in ?_
      refine next_in ?_
      refine seq_in ?_
      refine block_in ?_
      refine seq_in ?_
      refine seq_in ?_
      refine ops_in ?_
      refine sts_ok 2 (s' := ⟨(14, (.d (.i .i64 x4))) :: (13, (vGExpr p0)) :: (10, (.d (.b (decide (x4 < (p0.kids.length : Int)))))) :: (9, (.d (.i .i64 (p0.kids.length : Int)))) :: (8, (.d (.sl 10 (p0.kids.map cGExpr)))) :: (7, (.ptr 1 8)) :: (6, (.d (.i .i64 x4))) :: (stsWraps_L0 p0 x3 x4).env, (stsWraps_L0 p0 x3 x4).bx⟩) (by kernel_rfl) ?_
      refine call_step (m := sWrapped p0 x4) (args := [(vGExpr p0), (.d (.i .i64 x4))]) (v' := (fun y => (.d (.b y)))) h (OK_sWrapped p0 x4) (by kernel_rfl) (by kernel_rfl) (fun _ => rfl) ?_
      clear h; intro y1 h
      refine nil_in ?_
      refine next_in ?_
      refine cond_step h (by kernel_rfl) ?_ ?_
      · clear h; intro h
        refine ops_in ?_
        refine sts_ok 3 (s' := ⟨(3, (.d (.i .i64 (IntKind.wrap .i64 (x3 + 1))))) :: (17, (.d (.i .i64 (IntKind.wrap .i64 (x3 + 1))))) :: (16, (.d (.i .i64 x3))) :: (15, (.d (.b y1))) :: (14, (.d (.i .i64 x4))) :: (13, (vGExpr p0)) :: (10, (.d (.b (decide (x4 < (p0.kids.length : Int)))))) :: (9, (.d (.i .i64 (p0.kids.length : Int)))) :: (8, (.d (.sl 10 (p0.kids.map cGExpr)))) :: (7, (.ptr 1 8)) :: (6, (.d (.i .i64 x4))) :: (stsWraps_L0 p0 x3 x4).env, (stsWraps_L0 p0 x3 x4).bx⟩) (by kernel_rfl) ?_
        refine nil_in ?_
        exact next_step (s' := stsWraps_J1 x4 p0 (IntKind.wrap .i64 (x3 + 1))) (wk_ren [] (by kernel_rfl) (er_cons (vr_same (by kernel_rfl) (by kernel_rfl)) (er_cons (vr_same (by kernel_rfl) (by kernel_rfl)) (er_cons (vr_same (by kernel_rfl) (by kernel_rfl)) (er_nil)))) (br_same (by kernel_rfl) (by kernel_rfl) (br_nil))) (OK_sWraps_J1 x4 p0 (IntKind.wrap .i64 (x3 + 1)) _ h)
      · clear h; intro h
        refine skip_in ?_
        exact next_step (s' := stsWraps_J1 x4 p0 x3) (wk_ren [] (by kernel_rfl) (er_cons (vr_same (by kernel_rfl) (by kernel_rfl)) (er_cons (vr_same (by kernel_rfl) (by kernel_rfl)) (er_cons (vr_same (by kernel_rfl) (by kernel_rfl)) (er_nil)))) (br_same (by kernel_rfl) (by kernel_rfl) (br_nil))) (OK_sWraps_J1 x4 p0 x3 _ h)
    · clear h; intro h
      refine exit_in ?_
      refine thenK_exit ?_
      refine thenK_exit ?_
      refine blockK_here ?_
      refine next_in ?_
      refine seq_in ?_
      refine seq_in ?_
      refine ops_in ?_
      refine sts_ok 1 (s' := ⟨(5, (.d (.i .i64 0))) :: (10, (.d (.b (decide (x4 < (p0.kids.length : Int)))))) :: (9, (.d (.i .i64 (p0.kids.length : Int)))) :: (8, (.d (.sl 10 (p0.kids.map cGExpr)))) :: (7, (.ptr 1 8)) :: (6, (.d (.i .i64 x4))) :: (stsWraps_L0 p0 x3 x4).env, (stsWraps_L0 p0 x3 x4).bx⟩) (by kernel_rfl) ?_
      refine nil_in ?_
      refine next_in ?_
      refine block_in ?_
      exact loop_go (s' := stsWraps_L2 p0 x3 0) (wk_ren [] (by kernel_rfl) (er_cons (vr_same (by kernel_rfl) (by kernel_rfl)) (er_cons (vr_same (by kernel_rfl) (by kernel_rfl)) (er_cons (vr_same (by kernel_rfl) (by kernel_rfl)) (er_nil)))) (br_same (by kernel_rfl) (by kernel_rfl) (br_nil))) (OK_sWraps_L2 p0 x3 0 _ h)
  · intro F_sWraps F_sWraps_L0 OK_sWraps OK_sWraps_L0 x4 p0 x3_2 r h
    delta acsWraps_J1
    refine ops_in ?_
    refine sts_ok 4 (s' := ⟨(21, (.d (.i .i64 x4))) :: (20, (.d (.sl 10 (p0.kids.map cGExpr)))) :: (19, (.ptr 1 8)) :: (18, (.d (.i .i64 x3_2))) :: (stsWraps_J1 x4 p0 x3_2).env, (stsWraps_J1 x4 p0 x3_2).bx⟩) (by kernel_rfl) ?_
    refine v_step (m := idx p0.kids x4) (v' := fun y => (.rp [(.i .i64 y.kind), (.i .i64 y.op), (.b y.not_), (.i .i64 y.value.kind), (.i .i64 y.value.num), (.s (bs y.value.text)), (.s (bs y.qual)), (.s (bs y.name)), (.sl 10 (y.kids.map cGExpr)), (.sl 6 (y.sub.map cGQuery))])) h rfl rfl (fun y hy => vop_ia (l := p0.kids) (f := cGExpr) (g := oGExpr) (k := .i64) hy cGExpr_eq (by kernel_rfl) (by kernel_rfl) (by kernel_rfl)) ?_
    clear h; intro y4 h
    refine sts_ok 1 (s' := ⟨(23, (vGExpr y4)) :: (22, (.rp [(.i .i64 y4.kind), (.i .i64 y4.op), (.b y4.not_), (.i .i64 y4.value.kind), (.i .i64 y4.value.num), (.s (bs y4.value.text)), (.s (bs y4.qual)), (.s (bs y4.name)), (.sl 10 (y4.kids.map cGExpr)), (.sl 6 (y4.sub.map cGQuery))])) :: (21, (.d (.i .i64 x4))) :: (20, (.d (.sl 10 (p0.kids.map cGExpr)))) :: (19, (.ptr 1 8)) :: (18, (.d (.i .i64 x3_2))) :: (stsWraps_J1 x4 p0 x3_2).env, (stsWraps_J1 x4 p0 x3_2).bx⟩) (by kernel_rfl) ?_
    refine call_step (m := F_sWraps y4) (args := [(vGExpr y4)]) (v' := (fun y => (.d (.i .i64 y)))) h (OK_sWraps y4) (by kernel_rfl) (by kernel_rfl) (fun _ => rfl) ?_
    clear h; intro y5 h
    refine sts_ok 2 (s' := ⟨(3, (.d (.i .i64 (IntKind.wrap .i64 (x3_2 + y5))))) :: (25, (.d (.i .i64 (IntKind.wrap .i64 (x3_2 + y5))))) :: (24, (.d (.i .i64 y5))) :: (23, (vGExpr y4)) :: (22, (.rp [(.i .i64 y4.kind), (.i .i64 y4.op), (.b y4.not_), (.i .i64 y4.value.kind), (.i .i64 y4.value.num), (.s (bs y4.value.text)), (.s (bs y4.qual)), (.s (bs y4.name)), (.sl 10 (y4.kids.map cGExpr)), (.sl 6 (y4.sub.map cGQuery))])) :: (21, (.d (.i .i64 x4))) :: (20, (.d (.sl 10 (p0.kids.map cGExpr)))) :: (19, (.ptr 1 8)) :: (18, (.d (.i .i64 x3_2))) :: (stsWraps_J1 x4 p0 x3_2).env, (stsWraps_J1 x4 p0 x3_2).bx⟩) (by kernel_rfl) ?_
    refine nil_in ?_
    refine blockK_norm ?_
    refine next_in ?_
    refine ops_in ?_
    refine sts_ok 3 (s' := ⟨(4, (.d (.i .i64 (IntKind.wrap .i64 (x4 + 1))))) :: (12, (.d (.i .i64 (IntKind.wrap .i64 (x4 + 1))))) :: (11, (.d (.i .i64 x4))) :: (3, (.d (.i .i64 (IntKind.wrap .i64 (x3_2 + y5))))) :: (25, (.d (.i .i64 (IntKind.wrap .i64 (x3_2 + y5))))) :: (24, (.d (.i .i64 y5))) :: (23, (vGExpr y4)) :: (22, (.rp [(.i .i64 y4.kind), (.i .i64 y4.op), (.b y4.not_), (.i .i64 y4.value.kind), (.i .i64 y4.value.num), (.s (bs y4.value.text)), (.s (bs y4.qual)), (.s (bs y4.name)), (.sl 10 (y4.kids.map cGExpr)), (.sl 6 (y4.sub.map cGQuery))])) :: (21, (.d (.i .i64 x4))) :: (20, (.d (.sl 10 (p0.kids.map cGExpr)))) :: (19, (.ptr 1 8)) :: (18, (.d (.i .i64 x3_2))) :: (stsWraps_J1 x4 p0 x3_2).env, (stsWraps_J1 x4 p0 x3_2).bx⟩) (by kernel_rfl) ?_
    refine nil_in ?_
    exact loop_back (s' := stsWraps_L0 p0 (IntKind.wrap .i64 (x3_2 + y5)) (IntKind.wrap .i64 (x4 + 1))) (wk_ren [] (by kernel_rfl) (er_cons (vr_same (by kernel_rfl) (by kernel_rfl)) (er_cons (vr_same (by kernel_rfl) (by kernel_rfl)) (er_cons (vr_same (by kernel_rfl) (by kernel_rfl)) (er_nil)))) (br_same (by kernel_rfl) (by kernel_rfl) (br_nil))) (OK_sWraps_L0 p0 (IntKind.wrap .i64 (x3_2 + y5)) (IntKind.wrap .i64 (x4 + 1)) _ h)
theorem OK_sWraps_L2 (p0 : GExpr) (x3_3 : Int) (x5 : Int) (r : Int) (h : sWraps_L2 p0 x3_3 x5 = some r) : avc Try.prog acsWraps_L2 (qsWraps_6 r) (stsWraps_L2 p0 x3_3 x5) := (OKs_sWraps_L2).1 p0 x3_3 x5 r h
theorem OK_sWrapsIn (p0 : GQuery) : FOk Try.prog 24 [(vGQuery p0)] (fun y => (.d (.i .i64 y))) (sWrapsIn p0) := fun r h => (OKs_sWraps_L2).2.1 p0 r h
theorem OK_sWrapsIn_L0 (y1 : (List GExpr)) (x3 : Int) (x5 : Int) (r : Int) (h : sWrapsIn_L0 y1 x3 x5 = some r) : avc Try.prog acsWrapsIn_L0 (qsWrapsIn_1 r) (stsWrapsIn_L0 y1 x3 x5) := (OKs_sWraps_L2).2.2.1 y1 x3 x5 r h
theorem OK_sWraps (p0 : GExpr) : FOk Try.prog 20 [(vGExpr p0)] (fun y => (.d (.i .i64 y))) (sWraps p0) := fun r h => (OKs_sWraps_L2).2.2.2.1 p0 r h
theorem OK_sWraps_L0 (p0 : GExpr) (x3 : Int) (x4 : Int) (r : Int) (h : sWraps_L0 p0 x3 x4 = some r) : avc Try.prog acsWraps_L0 (qsWraps_1 r) (stsWraps_L0 p0 x3 x4) := (OKs_sWraps_L2).2.2.2.2.1 p0 x3 x4 r h
theorem OK_sWraps_J1 (x4 : Int) (p0 : GExpr) (x3_2 : Int) (r : Int) (h : sWraps_J1 x4 p0 x3_2 = some r) : avc Try.prog acsWraps_J1 (qsWraps_4 r) (stsWraps_J1 x4 p0 x3_2) := (OKs_sWraps_L2).2.2.2.2.2 x4 p0 x3_2 r h
theorem OK_wEqValue (p0 : GValue) (p1 : GValue) : FOk Try.prog 77 [(vGValue p0), (vGValue p1)] (fun y => (.d (.b y))) (wEqValue p0 p1) := by
  intro r h
  rw [wEqValue] at h
  refine acalls_of_fn trwEqValue (Nat.le_of_ble_eq_true rfl) (by simp) ?_
  show avc Try.prog acwEqValue (qwEqValue _) ⟨[(0, (vGValue p0)), (1, (vGValue p1))], []⟩
  delta acwEqValue
  refine seq_in ?_
  refine ops_in ?_
  refine sts_ok 3 (s' := ⟨[(4, (.d (.b false))), (3, (.ptr 3 0)), (2, (.ptr 2 0)), (0, (vGValue p0)), (1, (vGValue p1))], [(3, [(.d (.i .i64 p1.kind)), (.d (.i .i64 p1.num)), (.d (.s (bs p1.text)))]), (2, [(.d (.i .i64 p0.kind)), (.d (.i .i64 p0.num)), (.d (.s (bs p0.text)))])]⟩) (by kernel_rfl) ?_
  refine nil_in ?_
  refine next_in ?_
  refine seq_in ?_
  refine seq_in ?_
  refine ops_in ?_
  refine sts_ok 5 (s' := ⟨[(9, (.d (.b (!decide (p0.kind = p1.kind))))), (8, (.d (.i .i64 p1.kind))), (7, (.ptr 3 0)), (6, (.d (.i .i64 p0.kind))), (5, (.ptr 2 0)), (4, (.d (.b false))), (3, (.ptr 3 0)), (2, (.ptr 2 0)), (0, (vGValue p0)), (1, (vGValue p1))], [(3, [(.d (.i .i64 p1.kind)), (.d (.i .i64 p1.num)), (.d (.s (bs p1.text)))]), (2, [(.d (.i .i64 p0.kind)), (.d (.i .i64 p0.num)), (.d (.s (bs p0.text)))])]⟩) (by kernel_rfl) ?_
  refine nil_in ?_
  refine next_in ?_
  refine cond_step h (by kernel_rfl) ?_ ?_
  · clear h; intro h
    refine seq_in ?_
    refine ops_in ?_
    refine sts_ok 1 (s' := ⟨[(4, (.d (.b false))), (9, (.d (.b (!decide (p0.kind = p1.kind))))), (8, (.d (.i .i64 p1.kind))), (7, (.ptr 3 0)), (6, (.d (.i .i64 p0.kind))), (5, (.ptr 2 0)), (4, (.d (.b false))), (3, (.ptr 3 0)), (2, (.ptr 2 0)), (0, (vGValue p0)), (1, (vGValue p1))], [(3, [(.d (.i .i64 p1.kind)), (.d (.i .i64 p1.num)), (.d (.s (bs p1.text)))]), (2, [(.d (.i .i64 p0.kind)), (.d (.i .i64 p0.num)), (.d (.s (bs p0.text)))])]⟩) (by kernel_rfl) ?_
    refine nil_in ?_
    refine next_in ?_
    refine ret_in ?_
    refine thenK_ret ?_
    have h := Option.some.inj h; subst h
    exact ret1_step (v := (.d (.b false))) (by kernel_rfl) (by kernel_rfl) (by kernel_rfl)
  · clear h; intro h
    refine skip_in ?_
    refine next_in ?_
    refine seq_in ?_
    refine seq_in ?_
    refine ops_in ?_
    refine sts_ok 5 (s' := ⟨[(14, (.d (.b (!decide (p0.num = p1.num))))), (13, (.d (.i .i64 p1.num))), (12, (.ptr 3 1)), (11, (.d (.i .i64 p0.num))), (10, (.ptr 2 1)), (9, (.d (.b (!decide (p0.kind = p1.kind))))), (8, (.d (.i .i64 p1.kind))), (7, (.ptr 3 0)), (6, (.d (.i .i64 p0.kind))), (5, (.ptr 2 0)), (4, (.d (.b false))), (3, (.ptr 3 0)), (2, (.ptr 2 0)), (0, (vGValue p0)), (1, (vGValue p1))], [(3, [(.d (.i .i64 p1.kind)), (.d (.i .i64 p1.num)), (.d (.s (bs p1.text)))]), (2, [(.d (.i .i64 p0.kind)), (.d (.i .i64 p0.num)), (.d (.s (bs p0.text)))])]⟩) (by kernel_rfl) ?_
    refine nil_in ?_
    refine next_in ?_
    refine cond_step h (by kernel_rfl) ?_ ?_
    · clear h; intro h
      refine seq_in ?_
      refine ops_in ?_
      refine sts_ok 1 (s' := ⟨[(4, (.d (.b false))), (14, (.d (.b (!decide (p0.num = p1.num))))), (13, (.d (.i .i64 p1.num))), (12, (.ptr 3 1)), (11, (.d (.i .i64 p0.num))), (10, (.ptr 2 1)), (9, (.d (.b (!decide (p0.kind = p1.kind))))), (8, (.d (.i .i64 p1.kind))), (7, (.ptr 3 0)), (6, (.d (.i .i64 p0.kind))), (5, (.ptr 2 0)), (4, (.d (.b false))), (3, (.ptr 3 0)), (2, (.ptr 2 0)), (0, (vGValue p0)), (1, (vGValue p1))], [(3, [(.d (.i .i64 p1.kind)), (.d (.i .i64 p1.num)), (.d (.s (bs p1.text)))]), (2, [(.d (.i .i64 p0.kind)), (.d (.i .i64 p0.num)), (.d (.s (bs p0.text)))])]⟩) (by kernel_rfl) ?_
      refine nil_in ?_
      refine next_in ?_
      refine ret_in ?_
      refine thenK_ret ?_
      have h := Option.some.inj h; subst h
      exact ret1_step (v := (.d (.b false))) (by kernel_rfl) (by kernel_rfl) (by kernel_rfl)
    · clear h; intro h
      refine skip_in ?_
      refine next_in ?_
      refine seq_in ?_
      refine seq_in ?_
      refine ops_in ?_
      refine sts_ok 5 (s' := ⟨[(19, (.d (.b (!decide (p0.text = p1.text))))), (18, (.d (.s (bs p1.text)))), (17, (.ptr 3 2)), (16, (.d (.s (bs p0.text)))), (15, (.ptr 2 2)), (14, (.d (.b (!decide (p0.num = p1.num))))), (13, (.d (.i .i64 p1.num))), (12, (.ptr 3 1)), (11, (.d (.i .i64 p0.num))), (10, (.ptr 2 1)), (9, (.d (.b (!decide (p0.kind = p1.kind))))), (8, (.d (.i .i64 p1.kind))), (7, (.ptr 3 0)), (6, (.d (.i .i64 p0.kind))), (5, (.ptr 2 0)), (4, (.d (.b false))), (3, (.ptr 3 0)), (2, (.ptr 2 0)), (0, (vGValue p0)), (1, (vGValue p1))], [(3, [(.d (.i .i64 p1.kind)), (.d (.i .i64 p1.num)), (.d (.s (bs p1.text)))]), (2, [(.d (.i .i64 p0.kind)), (.d (.i .i64 p0.num)), (.d (.s (bs p0.text)))])]⟩) (by kernel_rfl) ?_
      refine nil_in ?_
      refine next_in ?_
      refine cond_step h (by kernel_rfl) ?_ ?_
      · clear h; intro h
        refine seq_in ?_
        refine ops_in ?_
        refine sts_ok 1 (s' := ⟨[(4, (.d (.b false))), (19, (.d (.b (!decide (p0.text = p1.text))))), (18, (.d (.s (bs p1.text)))), (17, (.ptr 3 2)), (16, (.d (.s (bs p0.text)))), (15, (.ptr 2 2)), (14, (.d (.b (!decide (p0.num = p1.num))))), (13, (.d (.i .i64 p1.num))), (12, (.ptr 3 1)), (11, (.d (.i .i64 p0.num))), (10, (.ptr 2 1)), (9, (.d (.b (!decide (p0.kind = p1.kind))))), (8, (.d (.i .i64 p1.kind))), (7, (.ptr 3 0)), (6, (.d (.i .i64 p0.kind))), (5, (.ptr 2 0)), (4, (.d (.b false))), (3, (.ptr 3 0)), (2, (.ptr 2 0)), (0, (vGValue p0)), (1, (vGValue p1))], [(3, [(.d (.i .i64 p1.kind)), (.d (.i .i64 p1.num)), (.d (.s (bs p1.text)))]), (2, [(.d (.i .i64 p0.kind)), (.d (.i .i64 p0.num)), (.d (.s (bs p0.text)))])]⟩) (by kernel_rfl) ?_
        refine nil_in ?_
        refine next_in ?_
        refine ret_in ?_
        refine thenK_ret ?_
        have h := Option.some.inj h; subst h
        exact ret1_step (v := (.d (.b false))) (by kernel_rfl) (by kernel_rfl) (by kernel_rfl)
      · clear h; intro h
        refine skip_in ?_
        refine next_in ?_
        refine seq_in ?_
        refine ops_in ?_
        refine sts_ok 1 (s' := ⟨[(4, (.d (.b true))), (19, (.d (.b (!decide (p0.text = p1.text))))), (18, (.d (.s (bs p1.text)))), (17, (.ptr 3 2)), (16, (.d (.s (bs p0.text)))), (15, (.ptr 2 2)), (14, (.d (.b (!decide (p0.num = p1.num))))), (13, (.d (.i .i64 p1.num))), (12, (.ptr 3 1)), (11, (.d (.i .i64 p0.num))), (10, (.ptr 2 1)), (9, (.d (.b (!decide (p0.kind = p1.kind))))), (8, (.d (.i .i64 p1.kind))), (7, (.ptr 3 0)), (6, (.d (.i .i64 p0.kind))), (5, (.ptr 2 0)), (4, (.d (.b false))), (3, (.ptr 3 0)), (2, (.ptr 2 0)), (0, (vGValue p0)), (1, (vGValue p1))], [(3, [(.d (.i .i64 p1.kind)), (.d (.i .i64 p1.num)), (.d (.s (bs p1.text)))]), (2, [(.d (.i .i64 p0.kind)), (.d (.i .i64 p0.num)), (.d (.s (bs p0.text)))])]⟩) (by kernel_rfl) ?_
        refine nil_in ?_
        refine next_in ?_
        refine ret_in ?_
        have h := Option.some.inj h; subst h
        exact ret1_step (v := (.d (.b true))) (by kernel_rfl) (by kernel_rfl) (by kernel_rfl)
theorem OKs_wEqSource : (∀ (p0 : GSource) (p1 : GSource) (r : Bool), wEqSource p0 p1 = some r → ACalls Try.prog 124 [(vGSource p0), (vGSource p1)] [] fun x _ => x = (fun y => (.d (.b y))) r) ∧ (∀ (p0 : (List GExpr)) (p1 : (List GExpr)) (r : Bool), wEqExprS p0 p1 = some r → ACalls Try.prog 51 [(.d (.sl 10 (p0.map cGExpr))), (.d (.sl 10 (p1.map cGExpr)))] [] fun x _ => x = (fun y => (.d (.b y))) r) ∧ (∀ (p0 : (List GExpr)) (p1 : (List GExpr)) (x5 : Int) (r : Bool), wEqExprS_L0 p0 p1 x5 = some r → avc Try.prog acwEqExprS_L0 (qwEqExprS_1 r) (stwEqExprS_L0 p0 p1 x5)) ∧ (∀ (p0 : GExpr) (p1 : GExpr) (r : Bool), wEqExpr p0 p1 = some r → ACalls Try.prog 23 [(vGExpr p0), (vGExpr p1)] [] fun x _ => x = (fun y => (.d (.b y))) r) ∧ (∀ (p0 : (List GQuery)) (p1 : (List GQuery)) (r : Bool), wEqQueryS p0 p1 = some r → ACalls Try.prog 78 [(.d (.sl 6 (p0.map cGQuery))), (.d (.sl 6 (p1.map cGQuery)))] [] fun x _ => x = (fun y => (.d (.b y))) r) ∧ (∀ (p0 : (List GQuery)) (p1 : (List GQuery)) (x5 : Int) (r : Bool), wEqQueryS_L0 p0 p1 x5 = some r → avc Try.prog acwEqQueryS_L0 (qwEqQueryS_1 r) (stwEqQueryS_L0 p0 p1 x5)) ∧ (∀ (p0 : GQuery) (p1 : GQuery) (r : Bool), wEqQuery p0 p1 = some r → ACalls Try.prog 18 [(vGQuery p0), (vGQuery p1)] [] fun x _ => x = (fun y => (.d (.b y))) r) ∧ (∀ (p0 : (List GSortKey)) (p1 : (List GSortKey)) (r : Bool), wEqSortKeyS p0 p1 = some r → ACalls Try.prog 69 [(.d (.sl 11 (p0.map cGSortKey))), (.d (.sl 11 (p1.map cGSortKey)))] [] fun x _ => x = (fun y => (.d (.b y))) r) ∧ (∀ (p0 : (List GSortKey)) (p1 : (List GSortKey)) (x5 : Int) (r : Bool), wEqSortKeyS_L0 p0 p1 x5 = some r → avc Try.prog acwEqSortKeyS_L0 (qwEqSortKeyS_1 r) (stwEqSortKeyS_L0 p0 p1 x5)) ∧ (∀ (p0 : GSortKey) (p1 : GSortKey) (r : Bool), wEqSortKey p0 p1 = some r → ACalls Try.prog 125 [(vGSortKey p0), (vGSortKey p1)] [] fun x _ => x = (fun y => (.d (.b y))) r) ∧ (∀ (p0 : (List GSource)) (p1 : (List GSource)) (r : Bool), wEqSourceS p0 p1 = some r → ACalls Try.prog 68 [(.d (.sl 3 (p0.map cGSource))), (.d (.sl 3 (p1.map cGSource)))] [] fun x _ => x = (fun y => (.d (.b y))) r) ∧ (∀ (p0 : (List GSource)) (p1 : (List GSource)) (x5 : Int) (r : Bool), wEqSourceS_L0 p0 p1 x5 = some r → avc Try.prog acwEqSourceS_L0 (qwEqSourceS_1 r) (stwEqSourceS_L0 p0 p1 x5)) ∧ (∀ (p0 : (List GItem)) (p1 : (List GItem)) (r : Bool), wEqItemS p0 p1 = some r → ACalls Try.prog 67 [(.d (.sl 13 (p0.map cGItem))), (.d (.sl 13 (p1.map cGItem)))] [] fun x _ => x = (fun y => (.d (.b y))) r) ∧ (∀ (p0 : (List GItem)) (p1 : (List GItem)) (x5 : Int) (r : Bool), wEqItemS_L0 p0 p1 x5 = some r → avc Try.prog acwEqItemS_L0 (qwEqItemS_1 r) (stwEqItemS_L0 p0 p1 x5)) ∧ (∀ (p0 : GItem) (p1 : GItem) (r : Bool), wEqItem p0 p1 = some r → ACalls Try.prog 123 [(vGItem p0), (vGItem p1)] [] fun x _ => x = (fun y => (.d (.b y))) r) := by
  refine wEqSource.mutual_partial_correctness (fun p0 p1 r => ACalls Try.prog 124 [(vGSource p0), (vGSource p1)] [] fun x _ => x = (fun y => (.d (.b y))) r) (fun p0 p1 r => ACalls Try.prog 51 [(.d (.sl 10 (p0.map cGExpr))), (.d (.sl 10 (p1.map cGExpr)))] [] fun x _ => x = (fun y => (.d (.b y))) r) (fun p0 p1 x5 r => avc Try.prog acwEqExprS_L0 (qwEqExprS_1 r) (stwEqExprS_L0 p0 p1 x5)) (fun p0 p1 r => ACalls Try.prog 23 [(vGExpr p0), (vGExpr p1)] [] fun x _ => x = (fun y => (.d (.b y))) r) (fun p0 p1 r => ACalls Try.prog 78 [(.d (.sl 6 (p0.map cGQuery))), (.d (.sl 6 (p1.map cGQuery)))] [] fun x _ => x = (fun y => (.d (.b y))) r) (fun p0 p1 x5 r => avc Try.prog acwEqQueryS_L0 (qwEqQueryS_1 r) (stwEqQueryS_L0 p0 p1 x5)) (fun p0 p1 r => ACalls Try.prog 18 [(vGQuery p0), (vGQuery p1)] [] fun x _ => x = (fun y => (.d (.b y))) r) (fun p0 p1 r => ACalls Try.prog 69 [(.d (.sl 11 (p0.map cGSortKey))), (.d (.sl 11 (p1.map cGSortKey)))] [] fun x _ => x = (fun y => (.d (.b y))) r) (fun p0 p1 x5 r => avc Try.prog acwEqSortKeyS_L0 (qwEqSortKeyS_1 r) (stwEqSortKeyS_L0 p0 p1 x5)) (fun p0 p1 r => ACalls Try.prog 125 [(vGSortKey p0), (vGSortKey p1)] [] fun x _ => x = (fun y => (.d (.b y))) r) (fun p0 p1 r => ACalls Try.prog 68 [(.d (.sl 3 (p0.map cGSource))), (.d (.sl 3 (p1.map cGSource)))] [] fun x _ => x = (fun y => (.d (.b y))) r) (fun p0 p1 x5 r => avc Try.prog acwEqSourceS_L0 (qwEqSourceS_1 r) (stwEqSourceS_L0 p0 p1 x5)) (fun p0 p1 r => ACalls Try.prog 67 [(.d (.sl 13 (p0.map cGItem))), (.d (.sl 13 (p1.map cGItem)))] [] fun x _ => x = (fun y => (.d (.b y))) r) (fun p0 p1 x5 r => avc Try.prog acwEqItemS_L0 (qwEqItemS_1 r) (stwEqItemS_L0 p0 p1 x5)) (fun p0 p1 r => ACalls Try.prog 123 [(vGItem p0), (vGItem p1)] [] fun x _ => x = (fun y => (.d (.b y))) r) ?_ ?_ ?_ ?_ ?_ ?_ ?_ ?_ ?_ ?_ ?_ ?_ ?_ ?_ ?_
  · intro F_wEqExprS OK_wEqExprS p0 p1 r h
    refine acalls_of_fn trwEqSource (Nat.le_of_ble_eq_true rfl) (by simp) ?_
    show avc Try.prog acwEqSource (qwEqSource _) ⟨[(0, (vGSource p0)), (1, (vGSource p1))], []⟩
    delta acwEqSource
    refine seq_in ?_
    refine ops_in ?_
    refine sts_ok 3 (s' := ⟨[(4, (.d (.b false))), (3, (.ptr 3 0)), (2, (.ptr 2 0)), (0, (vGSource p0)), (1, (vGSource p1))], [(3, [(.d (.s (bs p1.table))), (.d (.s (bs p1.as_))), (.d (.sl 10 (p1.on_.map cGExpr)))]), (2, [(.d (.s (bs p0.table))), (.d (.s (bs p0.as_))), (.d (.sl 10 (p0.on_.map cGExpr)))])]⟩) (by kernel_rfl) ?_
    refine nil_in ?_
    refine next_in ?_
    refine seq_in ?_
    refine seq_in ?_
    refine ops_in ?_
    refine sts_ok 5 (s' := ⟨[(9, (.d (.b (!decide (p0.table = p1.table))))), (8, (.d (.s (bs p1.table)))), (7, (.ptr 3 0)), (6, (.d (.s (bs p0.table)))), (5, (.ptr 2 0)), (4, (.d (.b false))), (3, (.ptr 3 0)), (2, (.ptr 2 0)), (0, (vGSource p0)), (1, (vGSource p1))], [(3, [(.d (.s (bs p1.table))), (.d (.s (bs p1.as_))), (.d (.sl 10 (p1.on_.map cGExpr)))]), (2, [(.d (.s (bs p0.table))), (.d (.s (bs p0.as_))), (.d (.sl 10 (p0.on_.map cGExpr)))])]⟩) (by kernel_rfl) ?_
    refine nil_in ?_
    refine next_in ?_
    refine cond_step h (by kernel_rfl) ?_ ?_
    · clear h; intro h
      refine seq_in ?_
      refine ops_in ?_
      refine sts_ok 1 (s' := ⟨[(4, (.d (.b false))), (9, (.d (.b (!decide (p0.table = p1.table))))), (8, (.d (.s (bs p1.table)))), (7, (.ptr 3 0)), (6, (.d (.s (bs p0.table)))), (5, (.ptr 2 0)), (4, (.d (.b false))), (3, (.ptr 3 0)), (2, (.ptr 2 0)), (0, (vGSource p0)), (1, (vGSource p1))], [(3, [(.d (.s (bs p1.table))), (.d (.s (bs p1.as_))), (.d (.sl 10 (p1.on_.map cGExpr)))]), (2, [(.d (.s (bs p0.table))), (.d (.s (bs p0.as_))), (.d (.sl 10 (p0.on_.map cGExpr)))])]⟩) (by kernel_rfl) ?_
      refine nil_in ?_
      refine next_in ?_
      refine ret_in ?_
      refine thenK_ret ?_
      have h := Option.some.inj h; subst h
      exact ret1_step (v := (.d (.b false))) (by kernel_rfl) (by kernel_rfl) (by kernel_rfl)
    · clear h; intro h
      refine skip_in ?_
      refine next_in ?_
      refine seq_in ?_
      refine seq_in ?_
      refine ops_in ?_
      refine sts_ok 5 (s' := ⟨[(14, (.d (.b (!decide (p0.as_ = p1.as_))))), (13, (.d (.s (bs p1.as_)))), (12, (.ptr 3 1)), (11, (.d (.s (bs p0.as_)))), (10, (.ptr 2 1)), (9, (.d (.b (!decide (p0.table = p1.table))))), (8, (.d (.s (bs p1.table)))), (7, (.ptr 3 0)), (6, (.d (.s (bs p0.table)))), (5, (.ptr 2 0)), (4, (.d (.b false))), (3, (.ptr 3 0)), (2, (.ptr 2 0)), (0, (vGSource p0)), (1, (vGSource p1))], [(3, [(.d (.s (bs p1.table))), (.d (.s (bs p1.as_))), (.d (.sl 10 (p1.on_.map cGExpr)))]), (2, [(.d (.s (bs p0.table))), (.d (.s (bs p0.as_))), (.d (.sl 10 (p0.on_.map cGExpr)))])]⟩) (by kernel_rfl) ?_
      refine nil_in ?_
      refine next_in ?_
      refine cond_step h (by kernel_rfl) ?_ ?_
      · clear h; intro h
        refine seq_in ?_
        refine ops_in ?_
        refine sts_ok 1 (s' := ⟨[(4, (.d (.b false))), (14, (.d (.b (!decide (p0.as_ = p1.as_))))), (13, (.d (.s (bs p1.as_)))), (12, (.ptr 3 1)), (11, (.d (.s (bs p0.as_)))), (10, (.ptr 2 1)), (9, (.d (.b (!decide (p0.table = p1.table))))), (8, (.d (.s (bs p1.table)))), (7, (.ptr 3 0)), (6, (.d (.s (bs p0.table)))), (5, (.ptr 2 0)), (4, (.d (.b false))), (3, (.ptr 3 0)), (2, (.ptr 2 0)), (0, (vGSource p0)), (1, (vGSource p1))], [(3, [(.d (.s (bs p1.table))), (.d (.s (bs p1.as_))), (.d (.sl 10 (p1.on_.map cGExpr)))]), (2, [(.d (.s (bs p0.table))), (.d (.s (bs p0.as_))), (.d (.sl 10 (p0.on_.map cGExpr)))])]⟩) (by kernel_rfl) ?_
        refine nil_in ?_
        refine next_in ?_
        refine ret_in ?_
        refine thenK_ret ?_
        have h := Option.some.inj h; subst h
        exact ret1_step (v := (.d (.b false))) (by kernel_rfl) (by kernel_rfl) (by kernel_rfl)
      · clear h; intro h
        refine skip_in ?_
        refine next_in ?_
        refine seq_in ?_
        refine seq_in ?_
        refine ops_in ?_
        refine sts_ok 4 (s' := ⟨[(18, (.d (.sl 10 (p1.on_.map cGExpr)))), (17, (.ptr 3 2)), (16, (.d (.sl 10 (p0.on_.map cGExpr)))), (15, (.ptr 2 2)), (14, (.d (.b (!decide (p0.as_ = p1.as_))))), (13, (.d (.s (bs p1.as_)))), (12, (.ptr 3 1)), (11, (.d (.s (bs p0.as_)))), (10, (.ptr 2 1)), (9, (.d (.b (!decide (p0.table = p1.table))))), (8, (.d (.s (bs p1.table)))), (7, (.ptr 3 0)), (6, (.d (.s (bs p0.table)))), (5, (.ptr 2 0)), (4, (.d (.b false))), (3, (.ptr 3 0)), (2, (.ptr 2 0)), (0, (vGSource p0)), (1, (vGSource p1))], [(3, [(.d (.s (bs p1.table))), (.d (.s (bs p1.as_))), (.d (.sl 10 (p1.on_.map cGExpr)))]), (2, [(.d (.s (bs p0.table))), (.d (.s (bs p0.as_))), (.d (.sl 10 (p0.on_.map cGExpr)))])]⟩) (by kernel_rfl) ?_
        refine call_step (m := F_wEqExprS p0.on_ p1.on_) (args := [(.d (.sl 10 (p0.on_.map cGExpr))), (.d (.sl 10 (p1.on_.map cGExpr)))]) (v' := (fun y => (.d (.b y)))) h (OK_wEqExprS p0.on_ p1.on_) (by kernel_rfl) (by kernel_rfl) (fun _ => rfl) ?_
        clear h; intro y1 h
        refine sts_ok 1 (s' := ⟨[(20, (.d (.b (!y1)))), (19, (.d (.b y1))), (18, (.d (.sl 10 (p1.on_.map cGExpr)))), (17, (.ptr 3 2)), (16, (.d (.sl 10 (p0.on_.map cGExpr)))), (15, (.ptr 2 2)), (14, (.d (.b (!decide (p0.as_ = p1.as_))))), (13, (.d (.s (bs p1.as_)))), (12, (.ptr 3 1)), (11, (.d (.s (bs p0.as_)))), (10, (.ptr 2 1)), (9, (.d (.b (!decide (p0.table = p1.table))))), (8, (.d (.s (bs p1.table)))), (7, (.ptr 3 0)), (6, (.d (.s (bs p0.table)))), (5, (.ptr 2 0)), (4, (.d (.b false))), (3, (.ptr 3 0)), (2, (.ptr 2 0)), (0, (vGSource p0)), (1, (vGSource p1))], [(3, [(.d (.s (bs p1.table))), (.d (.s (bs p1.as_))), (.d (.sl 10 (p1.on_.map cGExpr)))]), (2, [(.d (.s (bs p0.table))), (.d (.s (bs p0.as_))), (.d (.sl 10 (p0.on_.map cGExpr)))])]⟩) (by kernel_rfl) ?_
        refine nil_in ?_
        refine next_in ?_
        refine cond_step h (by kernel_rfl) ?_ ?_
        · clear h; intro h
          refine seq_in ?_
          refine ops_in ?_
          refine sts_ok 1 (s' := ⟨[(4, (.d (.b false))), (20, (.d (.b (!y1)))), (19, (.d (.b y1))), (18, (.d (.sl 10 (p1.on_.map cGExpr)))), (17, (.ptr 3 2)), (16, (.d (.sl 10 (p0.on_.map cGExpr)))), (15, (.ptr 2 2)), (14, (.d (.b (!decide (p0.as_ = p1.as_))))), (13, (.d (.s (bs p1.as_)))), (12, (.ptr 3 1)), (11, (.d (.s (bs p0.as_)))), (10, (.ptr 2 1)), (9, (.d (.b (!decide (p0.table = p1.table))))), (8, (.d (.s (bs p1.table)))), (7, (.ptr 3 0)), (6, (.d (.s (bs p0.table)))), (5, (.ptr 2 0)), (4, (.d (.b false))), (3, (.ptr 3 0)), (2, (.ptr 2 0)), (0, (vGSource p0)), (1, (vGSource p1))], [(3, [(.d (.s (bs p1.table))), (.d (.s (bs p1.as_))), (.d (.sl 10 (p1.on_.map cGExpr)))]), (2, [(.d (.s (bs p0.table))), (.d (.s (bs p0.as_))), (.d (.sl 10 (p0.on_.map cGExpr)))])]⟩) (by kernel_rfl) ?_
          refine nil_in ?_
          refine next_in ?_
          refine ret_in ?_
          refine thenK_ret ?_
          have h := Option.some.inj h; subst h
          exact ret1_step (v := (.d (.b false))) (by kernel_rfl) (by kernel_rfl) (by kernel_rfl)
        · clear h; intro h
          refine skip_in ?_
          refine next_in ?_
          refine seq_in ?_
          refine ops_in ?_
          refine sts_ok 1 (s' := ⟨[(4, (.d (.b true))), (20, (.d (.b (!y1)))), (19, (.d (.b y1))), (18, (.d (.sl 10 (p1.on_.map cGExpr)))), (17, (.ptr 3 2)), (16, (.d (.sl 10 (p0.on_.map cGExpr)))), (15, (.ptr 2 2)), (14, (.d (.b (!decide (p0.as_ = p1.as_))))), (13, (.d (.s (bs p1.as_)))), (12, (.ptr 3 1)), (11, (.d (.s (bs p0.as_)))), (10, (.ptr 2 1)), (9, (.d (.b (!decide (p0.table = p1.table))))), (8, (.d (.s (bs p1.table)))), (7, (.ptr 3 0)), (6, (.d (.s (bs p0.table)))), (5, (.ptr 2 0)), (4, (.d (.b false))), (3, (.ptr 3 0)), (2, (.ptr 2 0)), (0, (vGSource p0)), (1, (vGSource p1))], [(3, [(.d (.s (bs p1.table))), (.d (.s (bs p1.as_))), (.d (.sl 10 (p1.on_.map cGExpr)))]), (2, [(.d (.s (bs p0.table))), (.d (.s (bs p0.as_))), (.d (.sl 10 (p0.on_.map cGExpr)))])]⟩) (by kernel_rfl) ?_
          refine nil_in ?_
          refine next_in ?_
          refine ret_in ?_
          have h := Option.some.inj h; subst h
          exact ret1_step (v := (.d (.b true))) (by kernel_rfl) (by kernel_rfl) (by kernel_rfl)
  · intro F_wEqExprS_L0 OK_wEqExprS_L0 p0 p1 r h
    refine acalls_of_fn trwEqExprS (Nat.le_of_ble_eq_true rfl) (by simp) ?_
    show avc Try.prog acwEqExprS (qwEqExprS _) ⟨[(0, (.d (.sl 10 (p0.map cGExpr)))), (1, (.d (.sl 10 (p1.map cGExpr))))], []⟩
    delta acwEqExprS
    refine seq_in ?_
    refine ops_in ?_
    refine sts_ok 1 (s' := ⟨[(4, (.d (.b false))), (0, (.d (.sl 10 (p0.map cGExpr)))), (1, (.d (.sl 10 (p1.map cGExpr))))], []⟩) (by kernel_rfl) ?_
    refine nil_in ?_
    refine next_in ?_
    refine seq_in ?_
    refine seq_in ?_
    refine ops_in ?_
    refine sts_ok 1 (s' := ⟨[(6, (.d (.sl 10 (p0.map cGExpr)))), (4, (.d (.b false))), (0, (.d (.sl 10 (p0.map cGExpr)))), (1, (.d (.sl 10 (p1.map cGExpr))))], []⟩) (by kernel_rfl) ?_
    refine p_step (v' := (.d (.i .i64 (p0.length : Int)))) rfl rfl (vop_len (sz := 10) (l := p0) (f := cGExpr) (by kernel_rfl) (by kernel_rfl)) ?_
    refine sts_ok 1 (s' := ⟨[(8, (.d (.sl 10 (p1.map cGExpr)))), (7, (.d (.i .i64 (p0.length : Int)))), (6, (.d (.sl 10 (p0.map cGExpr)))), (4, (.d (.b false))), (0, (.d (.sl 10 (p0.map cGExpr)))), (1, (.d (.sl 10 (p1.map cGExpr))))], []⟩) (by kernel_rfl) ?_
    refine p_step (v' := (.d (.i .i64 (p1.length : Int)))) rfl rfl (vop_len (sz := 10) (l := p1) (f := cGExpr) (by kernel_rfl) (by kernel_rfl)) ?_
    refine sts_ok 1 (s' := ⟨[(10, (.d (.b (!decide ((p0.length : Int) = (p1.length : Int)))))), (9, (.d (.i .i64 (p1.length : Int)))), (8, (.d (.sl 10 (p1.map cGExpr)))), (7, (.d (.i .i64 (p0.length : Int)))), (6, (.d (.sl 10 (p0.map cGExpr)))), (4, (.d (.b false))), (0, (.d (.sl 10 (p0.map cGExpr)))), (1, (.d (.sl 10 (p1.map cGExpr))))], []⟩) (by kernel_rfl) ?_
    refine nil_in ?_
    refine next_in ?_
    refine cond_step h (by kernel_rfl) ?_ ?_
    · clear h; intro h
      refine seq_in ?_
      refine ops_in ?_
      refine sts_ok 1 (s' := ⟨[(4, (.d (.b false))), (10, (.d (.b (!decide ((p0.length : Int) = (p1.length : Int)))))), (9, (.d (.i .i64 (p1.length : Int)))), (8, (.d (.sl 10 (p1.map cGExpr)))), (7, (.d (.i .i64 (p0.length : Int)))), (6, (.d (.sl 10 (p0.map cGExpr)))), (4, (.d (.b false))), (0, (.d (.sl 10 (p0.map cGExpr)))), (1, (.d (.sl 10 (p1.map cGExpr))))], []⟩) (by kernel_rfl) ?_
      refine nil_in ?_
      refine next_in ?_
      refine ret_in ?_
      refine thenK_ret ?_
      have h := Option.some.inj h; subst h
      exact ret1_step (v := (.d (.b false))) (by kernel_rfl) (by kernel_rfl) (by kernel_rfl)
    · clear h; intro h
      refine skip_in ?_
      refine next_in ?_
      refine seq_in ?_
      refine seq_in ?_
      refine ops_in ?_
      refine sts_ok 1 (s' := ⟨[(5, (.d (.i .i64 0))), (10, (.d (.b (!decide ((p0.length : Int) = (p1.length : Int)))))), (9, (.d (.i .i64 (p1.length : Int)))), (8, (.d (.sl 10 (p1.map cGExpr)))), (7, (.d (.i .i64 (p0.length : Int)))), (6, (.d (.sl 10 (p0.map cGExpr)))), (4, (.d (.b false))), (0, (.d (.sl 10 (p0.map cGExpr)))), (1, (.d (.sl 10 (p1.map cGExpr))))], []⟩) (by kernel_rfl) ?_
      refine nil_in ?_
      refine next_in ?_
      refine block_in ?_
      exact loop_go (s' := stwEqExprS_L0 p0 p1 0) (wk_ren [] (by kernel_rfl) (er_cons (vr_same (by kernel_rfl) (by kernel_rfl)) (er_cons (vr_same (by kernel_rfl) (by kernel_rfl)) (er_cons (vr_same (by kernel_rfl) (by kernel_rfl)) (er_nil)))) (br_nil)) (OK_wEqExprS_L0 p0 p1 0 _ h)
  · intro F_wEqExprS_L0 F_wEqExpr OK_wEqExprS_L0 OK_wEqExpr p0 p1 x5 r h
    delta acwEqExprS_L0
    refine loop_unroll ?_
    refine seq_in ?_
    refine seq_in ?_
    refine ops_in ?_
    refine sts_ok 2 (s' := ⟨(12, (.d (.sl 10 (p0.map cGExpr)))) :: (11, (.d (.i .i64 x5))) :: (stwEqExprS_L0 p0 p1 x5).env, (stwEqExprS_L0 p0 p1 x5).bx⟩) (by kernel_rfl) ?_
    refine p_step (v' := (.d (.i .i64 (p0.length : Int)))) rfl rfl (vop_len (sz := 10) (l := p0) (f := cGExpr) (by kernel_rfl) (by kernel_rfl)) ?_
    refine sts_ok 1 (s' := ⟨(14, (.d (.b (decide (x5 < (p0.length : Int)))))) :: (13, (.d (.i .i64 (p0.length : Int)))) :: (12, (.d (.sl 10 (p0.map cGExpr)))) :: (11, (.d (.i .i64 x5))) :: (stwEqExprS_L0 p0 p1 x5).env, (stwEqExprS_L0 p0 p1 x5).bx⟩) (by kernel_rfl) ?_
    refine nil_in ?_
    refine next_in ?_
    refine cond_step h (by kernel_rfl) ?_ ?_
    · clear h; intro h
      refine skip_in ?_
      refine next_in ?_
      refine seq_in ?_
      refine block_in ?_
      refine seq_in ?_
      refine dops_in ?_
      refine dsts_ok 2 (s' := ⟨(18, (.d (.i .i64 x5))) :: (17, (.d (.sl 10 (p0.map cGExpr)))) :: (14, (.d (.b (decide (x5 < (p0.length : Int)))))) :: (13, (.d (.i .i64 (p0.length : Int)))) :: (12, (.d (.sl 10 (p0.map cGExpr)))) :: (11, (.d (.i .i64 x5))) :: (stwEqExprS_L0 p0 p1 x5).env, (stwEqExprS_L0 p0 p1 x5).bx⟩) (by kernel_rfl) ?_
      refine dv_step (m := idx p0 x5) (v' := fun y => (.rp [(.i .i64 y.kind), (.i .i64 y.op), (.b y.not_), (.i .i64 y.value.kind), (.i .i64 y.value.num), (.s (bs y.value.text)), (.s (bs y.qual)), (.s (bs y.name)), (.sl 10 (y.kids.map cGExpr)), (.sl 6 (y.sub.map cGQuery))])) h rfl rfl (fun y hy => vop_ia (l := p0) (f := cGExpr) (g := oGExpr) (k := .i64) hy cGExpr_eq (by kernel_rfl) (by kernel_rfl) (by kernel_rfl)) ?_
      clear h; intro y1 h
      refine dsts_ok 3 (s' := ⟨(22, (.d (.i .i64 x5))) :: (21, (.d (.sl 10 (p1.map cGExpr)))) :: (20, (vGExpr y1)) :: (19, (.rp [(.i .i64 y1.kind), (.i .i64 y1.op), (.b y1.not_), (.i .i64 y1.value.kind), (.i .i64 y1.value.num), (.s (bs y1.value.text)), (.s (bs y1.qual)), (.s (bs y1.name)), (.sl 10 (y1.kids.map cGExpr)), (.sl 6 (y1.sub.map cGQuery))])) :: (18, (.d (.i .i64 x5))) :: (17, (.d (.sl 10 (p0.map cGExpr)))) :: (14, (.d (.b (decide (x5 < (p0.length : Int)))))) :: (13, (.d (.i .i64 (p0.length : Int)))) :: (12, (.d (.sl 10 (p0.map cGExpr)))) :: (11, (.d (.i .i64 x5))) :: (stwEqExprS_L0 p0 p1 x5).env, (stwEqExprS_L0 p0 p1 x5).bx⟩) (by kernel_rfl) ?_
      refine dv_step (m := idx p1 x5) (v' := fun y => (.rp [(.i .i64 y.kind), (.i .i64 y.op), (.b y.not_), (.i .i64 y.value.kind), (.i .i64 y.value.num), (.s (bs y.value.text)), (.s (bs y.qual)), (.s (bs y.name)), (.sl 10 (y.kids.map cGExpr)), (.sl 6 (y.sub.map cGQuery))])) h rfl rfl (fun y hy => vop_ia (l := p1) (f := cGExpr) (g := oGExpr) (k := .i64) hy cGExpr_eq (by kernel_rfl) (by kernel_rfl) (by kernel_rfl)) ?_
      clear h; intro y2 h
      refine dsts_ok 1 (s' := ⟨(24, (vGExpr y2)) :: (23, (.rp [(.i .i64 y2.kind), (.i .i64 y2.op), (.b y2.not_), (.i .i64 y2.value.kind), (.i .i64 y2.value.num), (.s (bs y2.value.text)), (.s (bs y2.qual)), (.s (bs y2.name)), (.sl 10 (y2.kids.map cGExpr)), (.sl 6 (y2.sub.map cGQuery))])) :: (22, (.d (.i .i64 x5))) :: (21, (.d (.sl 10 (p1.map cGExpr)))) :: (20, (vGExpr y1)) :: (19, (.rp [(.i .i64 y1.kind), (.i .i64 y1.op), (.b y1.not_), (.i .i64 y1.value.kind), (.i .i64 y1.value.num), (.s (bs y1.value.text)), (.s (bs y1.qual)), (.s (bs y1.name)), (.sl 10 (y1.kids.map cGExpr)), (.sl 6 (y1.sub.map cGQuery))])) :: (18, (.d (.i .i64 x5))) :: (17, (.d (.sl 10 (p0.map cGExpr)))) :: (14, (.d (.b (decide (x5 < (p0.length : Int)))))) :: (13, (.d (.i .i64 (p0.length : Int)))) :: (12, (.d (.sl 10 (p0.map cGExpr)))) :: (11, (.d (.i .i64 x5))) :: (stwEqExprS_L0 p0 p1 x5).env, (stwEqExprS_L0 p0 p1 x5).bx⟩) (by kernel_rfl) ?_
      refine dcall_step (m := F_wEqExpr y1 y2) (args := [(vGExpr y1), (vGExpr y2)]) (v' := (fun y => (.d (.b y)))) h (OK_wEqExpr y1 y2) (by kernel_rfl) (by kernel_rfl) (fun _ => rfl) ?_
      clear h; intro y3 h
      refine dsts_ok 1 (s' := ⟨(26, (.d (.b (!y3)))) :: (25, (.d (.b y3))) :: (24, (vGExpr y2)) :: (23, (.rp [(.i .i64 y2.kind), (.i .i64 y2.op), (.b y2.not_), (.i .i64 y2.value.kind), (.i .i64 y2.value.num), (.s (bs y2.value.text)), (.s (bs y2.qual)), (.s (bs y2.name)), (.sl 10 (y2.kids.map cGExpr)), (.sl 6 (y2.sub.map cGQuery))])) :: (22, (.d (.i .i64 x5))) :: (21, (.d (.sl 10 (p1.map cGExpr)))) :: (20, (vGExpr y1)) :: (19, (.rp [(.i .i64 y1.kind), (.i .i64 y1.op), (.b y1.not_), (.i .i64 y1.value.kind), (.i .i64 y1.value.num), (.s (bs y1.value.text)), (.s (bs y1.qual)), (.s (bs y1.name)), (.sl 10 (y1.kids.map cGExpr)), (.sl 6 (y1.sub.map cGQuery))])) :: (18, (.d (.i .i64 x5))) :: (17, (.d (.sl 10 (p0.map cGExpr)))) :: (14, (.d (.b (decide (x5 < (p0.length : Int)))))) :: (13, (.d (.i .i64 (p0.length : Int)))) :: (12, (.d (.sl 10 (p0.map cGExpr)))) :: (11, (.d (.i .i64 x5))) :: (stwEqExprS_L0 p0 p1 x5).env, (stwEqExprS_L0 p0 p1 x5).bx⟩) (by kernel_rfl) ?_
      refine dnil_in (by kernel_rfl) (by kernel_rfl) ?_
      refine next_in ?_
      refine cond_step h (by kernel_rfl) ?_ ?_
      · clear h; intro h
        refine seq_in ?_
        refine ops_in ?_
        refine sts_ok 1 (s' := ⟨(4, (.d (.b false))) :: (26, (.d (.b (!y3)))) :: (25, (.d (.b y3))) :: (24, (vGExpr y2)) :: (23, (.rp [(.i .i64 y2.kind), (.i .i64 y2.op), (.b y2.not_), (.i .i64 y2.value.kind), (.i .i64 y2.value.num), (.s (bs y2.value.text)), (.s (bs y2.qual)), (.s (bs y2.name)), (.sl 10 (y2.kids.map cGExpr)), (.sl 6 (y2.sub.map cGQuery))])) :: (22, (.d (.i .i64 x5))) :: (21, (.d (.sl 10 (p1.map cGExpr)))) :: (20, (vGExpr y1)) :: (19, (.rp [(.i .i64 y1.kind), (.i .i64 y1.op), (.b y1.not_), (.i .i64 y1.value.kind), (.i .i64 y1.value.num), (.s (bs y1.value.text)), (.s (bs y1.qual)), (.s (bs y1.name)), (.sl 10 (y1.kids.map cGExpr)), (.sl 6 (y1.sub.map cGQuery))])) :: (18, (.d (.i .i64 x5))) :: (17, (.d (.sl 10 (p0.map cGExpr)))) :: (14, (.d (.b (decide (x5 < (p0.length : Int)))))) :: (13, (.d (.i .i64 (p0.length : Int)))) :: (12, (.d (.sl 10 (p0.map cGExpr)))) :: (11, (.d (.i .i64 x5))) :: (stwEqExprS_L0 p0 p1 x5).env, (stwEqExprS_L0 p0 p1 x5).bx⟩) (by kernel_rfl) ?_
        refine nil_in ?_
        refine next_in ?_
        refine ret_in ?_
        refine blockK_ret ?_
        refine thenK_ret ?_
        refine thenK_ret ?_
        refine blockK_ret ?_
        refine thenK_ret ?_
        have h := Option.some.inj h; subst h
        exact ret1_step (v := (.d (.b false))) (by kernel_rfl) (by kernel_rfl) (by kernel_rfl)
      · clear h; intro h
        refine skip_in ?_
        refine blockK_norm ?_
        refine next_in ?_
        refine ops_in ?_
        refine sts_ok 3 (s' := ⟨(5, (.d (.i .i64 (IntKind.wrap .i64 (x5 + 1))))) :: (16, (.d (.i .i64 (IntKind.wrap .i64 (x5 + 1))))) :: (15, (.d (.i .i64 x5))) :: (26, (.d (.b (!y3)))) :: (25, (.d (.b y3))) :: (24, (vGExpr y2)) :: (23, (.rp [(.i .i64 y2.kind), (.i .i64 y2.op), (.b y2.not_), (.i .i64 y2.value.kind), (.i .i64 y2.value.num), (.s (bs y2.value.text)), (.s (bs y2.qual)), (.s (bs y2.name)), (.sl 10 (y2.kids.map cGExpr)), (.sl 6 (y2.sub.map cGQuery))])) :: (22, (.d (.i .i64 x5))) :: (21, (.d (.sl 10 (p1.map cGExpr)))) :: (20, (vGExpr y1)) :: (19, (.rp [(.i .i64 y1.kind), (.i .i64 y1.op), (.b y1.not_), (.i .i64 y1.value.kind), (.i .i64 y1.value.num), (.s (bs y1.value.text)), (.s (bs y1.qual)), (.s (bs y1.name)), (.sl 10 (y1.kids.map cGExpr)), (.sl 6 (y1.sub.map cGQuery))])) :: (18, (.d (.i .i64 x5))) :: (17, (.d (.sl 10 (p0.map cGExpr)))) :: (14, (.d (.b (decide (x5 < (p0.length : Int)))))) :: (13, (.d (.i .i64 (p0.length : Int)))) :: (12, (.d (.sl 10 (p0.map cGExpr)))) :: (11, (.d (.i .i64 x5))) :: (stwEqExprS_L0 p0 p1 x5).env, (stwEqExprS_L0 p0 p1 x5).bx⟩) (by kernel_rfl) ?_
        refine nil_in ?_
        exact loop_back (s' := stwEqExprS_L0 p0 p1 (IntKind.wrap .i64 (x5 + 1))) (wk_ren [] (by kernel_rfl) (er_cons (vr_same (by kernel_rfl) (by kernel_rfl)) (er_cons (vr_same (by kernel_rfl) (by kernel_rfl)) (er_cons (vr_same (by kernel_rfl) (by kernel_rfl)) (er_nil)))) (br_nil)) (OK_wEqExprS_L0 p0 p1 (IntKind.wrap .i64 (x5 + 1)) _ h)
    · clear h; intro h
      refine exit_in ?_
      refine thenK_exit ?_
      refine thenK_exit ?_
      refine blockK_here ?_
      refine next_in ?_
      refine seq_in ?_
      refine ops_in ?_
      refine sts_ok 1 (s' := ⟨(4, (.d (.b true))) :: (14, (.d (.b (decide (x5 < (p0.length : Int)))))) :: (13, (.d (.i .i64 (p0.length : Int)))) :: (12, (.d (.sl 10 (p0.map cGExpr)))) :: (11, (.d (.i .i64 x5))) :: (stwEqExprS_L0 p0 p1 x5).env, (stwEqExprS_L0 p0 p1 x5).bx⟩) (by kernel_rfl) ?_
      refine nil_in ?_
      refine next_in ?_
      refine ret_in ?_
      have h := Option.some.inj h; subst h
      exact ret1_step (v := (.d (.b true))) (by kernel_rfl) (by kernel_rfl) (by kernel_rfl)
  · intro F_wEqExprS F_wEqQueryS OK_wEqExprS OK_wEqQueryS p0 p1 r h
    refine acalls_of_fn trwEqExpr (Nat.le_of_ble_eq_true rfl) (by simp) ?_
    show avc Try.prog acwEqExpr (qwEqExpr _) ⟨[(0, (vGExpr p0)), (1, (vGExpr p1))], []⟩
    delta acwEqExpr
    refine seq_in ?_
    refine ops_in ?_
    refine sts_ok 3 (s' := ⟨[(4, (.d (.b false))), (3, (.ptr 3 0)), (2, (.ptr 2 0)), (0, (vGExpr p0)), (1, (vGExpr p1))], [(3, [(.d (.i .i64 p1.kind)), (.d (.i .i64 p1.op)), (.d (.b p1.not_)), (.d (.i .i64 p1.value.kind)), (.d (.i .i64 p1.value.num)), (.d (.s (bs p1.value.text))), (.d (.s (bs p1.qual))), (.d (.s (bs p1.name))), (.d (.sl 10 (p1.kids.map cGExpr))), (.d (.sl 6 (p1.sub.map cGQuery)))]), (2, [(.d (.i .i64 p0.kind)), (.d (.i .i64 p0.op)), (.d (.b p0.not_)), (.d (.i .i64 p0.value.kind)), (.d (.i .i64 p0.value.num)), (.d (.s (bs p0.value.text))), (.d (.s (bs p0.qual))), (.d (.s (bs p0.name))), (.d (.sl 10 (p0.kids.map cGExpr))), (.d (.sl 6 (p0.sub.map cGQuery)))])]⟩) (by kernel_rfl) ?_
    refine nil_in ?_
    refine next_in ?_
    refine seq_in ?_
    refine seq_in ?_
    refine ops_in ?_
    refine sts_ok 5 (s' := ⟨[(9, (.d (.b (!decide (p0.kind = p1.kind))))), (8, (.d (.i .i64 p1.kind))), (7, (.ptr 3 0)), (6, (.d (.i .i64 p0.kind))), (5, (.ptr 2 0)), (4, (.d (.b false))), (3, (.ptr 3 0)), (2, (.ptr 2 0)), (0, (vGExpr p0)), (1, (vGExpr p1))], [(3, [(.d (.i .i64 p1.kind)), (.d (.i .i64 p1.op)), (.d (.b p1.not_)), (.d (.i .i64 p1.value.kind)), (.d (.i .i64 p1.value.num)), (.d (.s (bs p1.value.text))), (.d (.s (bs p1.qual))), (.d (.s (bs p1.name))), (.d (.sl 10 (p1.kids.map cGExpr))), (.d (.sl 6 (p1.sub.map cGQuery)))]), (2, [(.d (.i .i64 p0.kind)), (.d (.i .i64 p0.op)), (.d (.b p0.not_)), (.d (.i .i64 p0.value.kind)), (.d (.i .i64 p0.value.num)), (.d (.s (bs p0.value.text))), (.d (.s (bs p0.qual))), (.d (.s (bs p0.name))), (.d (.sl 10 (p0.kids.map cGExpr))), (.d (.sl 6 (p0.sub.map cGQuery)))])]⟩) (by kernel_rfl) ?_
    refine nil_in ?_
    refine next_in ?_
    refine cond_step h (by kernel_rfl) ?_ ?_
    · clear h; intro h
      refine seq_in ?_
      refine ops_in ?_
      refine sts_ok 1 (s' := ⟨[(4, (.d (.b false))), (9, (.d (.b (!decide (p0.kind = p1.kind))))), (8, (.d (.i .i64 p1.kind))), (7, (.ptr 3 0)), (6, (.d (.i .i64 p0.kind))), (5, (.ptr 2 0)), (4, (.d (.b false))), (3, (.ptr 3 0)), (2, (.ptr 2 0)), (0, (vGExpr p0)), (1, (vGExpr p1))], [(3, [(.d (.i .i64 p1.kind)), (.d (.i .i64 p1.op)), (.d (.b p1.not_)), (.d (.i .i64 p1.value.kind)), (.d (.i .i64 p1.value.num)), (.d (.s (bs p1.value.text))), (.d (.s (bs p1.qual))), (.d (.s (bs p1.name))), (.d (.sl 10 (p1.kids.map cGExpr))), (.d (.sl 6 (p1.sub.map cGQuery)))]), (2, [(.d (.i .i64 p0.kind)), (.d (.i .i64 p0.op)), (.d (.b p0.not_)), (.d (.i .i64 p0.value.kind)), (.d (.i .i64 p0.value.num)), (.d (.s (bs p0.value.text))), (.d (.s (bs p0.qual))), (.d (.s (bs p0.name))), (.d (.sl 10 (p0.kids.map cGExpr))), (.d (.sl 6 (p0.sub.map cGQuery)))])]⟩) (by kernel_rfl) ?_
      refine nil_in ?_
      refine next_in ?_
      refine ret_in ?_
      refine thenK_ret ?_
      have h := Option.some.inj h; subst h
      exact ret1_step (v := (.d (.b false))) (by kernel_rfl) (by kernel_rfl) (by kernel_rfl)
    · clear h; intro h
      refine skip_in ?_
      refine next_in ?_
      refine seq_in ?_
      refine seq_in ?_
      refine ops_in ?_
      refine sts_ok 5 (s' := ⟨[(14, (.d (.b (!decide (p0.op = p1.op))))), (13, (.d (.i .i64 p1.op))), (12, (.ptr 3 1)), (11, (.d (.i .i64 p0.op))), (10, (.ptr 2 1)), (9, (.d (.b (!decide (p0.kind = p1.kind))))), (8, (.d (.i .i64 p1.kind))), (7, (.ptr 3 0)), (6, (.d (.i .i64 p0.kind))), (5, (.ptr 2 0)), (4, (.d (.b false))), (3, (.ptr 3 0)), (2, (.ptr 2 0)), (0, (vGExpr p0)), (1, (vGExpr p1))], [(3, [(.d (.i .i64 p1.kind)), (.d (.i .i64 p1.op)), (.d (.b p1.not_)), (.d (.i .i64 p1.value.kind)), (.d (.i .i64 p1.value.num)), (.d (.s (bs p1.value.text))), (.d (.s (bs p1.qual))), (.d (.s (bs p1.name))), (.d (.sl 10 (p1.kids.map cGExpr))), (.d (.sl 6 (p1.sub.map cGQuery)))]), (2, [(.d (.i .i64 p0.kind)), (.d (.i .i64 p0.op)), (.d (.b p0.not_)), (.d (.i .i64 p0.value.kind)), (.d (.i .i64 p0.value.num)), (.d (.s (bs p0.value.text))), (.d (.s (bs p0.qual))), (.d (.s (bs p0.name))), (.d (.sl 10 (p0.kids.map cGExpr))), (.d (.sl 6 (p0.sub.map cGQuery)))])]⟩) (by kernel_rfl) ?_
      refine nil_in ?_
      refine next_in ?_
      refine cond_step h (by kernel_rfl) ?_ ?_
      · clear h; intro h
        refine seq_in ?_
        refine ops_in ?_
        refine sts_ok 1 (s' := ⟨[(4, (.d (.b false))), (14, (.d (.b (!decide (p0.op = p1.op))))), (13, (.d (.i .i64 p1.op))), (12, (.ptr 3 1)), (11, (.d (.i .i64 p0.op))), (10, (.ptr 2 1)), (9, (.d (.b (!decide (p0.kind = p1.kind))))), (8, (.d (.i .i64 p1.kind))), (7, (.ptr 3 0)), (6, (.d (.i .i64 p0.kind))), (5, (.ptr 2 0)), (4, (.d (.b false))), (3, (.ptr 3 0)), (2, (.ptr 2 0)), (0, (vGExpr p0)), (1, (vGExpr p1))], [(3, [(.d (.i .i64 p1.kind)), (.d (.i .i64 p1.op)), (.d (.b p1.not_)), (.d (.i .i64 p1.value.kind)), (.d (.i .i64 p1.value.num)), (.d (.s (bs p1.value.text))), (.d (.s (bs p1.qual))), (.d (.s (bs p1.name))), (.d (.sl 10 (p1.kids.map cGExpr))), (.d (.sl 6 (p1.sub.map cGQuery)))]), (2, [(.d (.i .i64 p0.kind)), (.d (.i .i64 p0.op)), (.d (.b p0.not_)), (.d (.i .i64 p0.value.kind)), (.d (.i .i64 p0.value.num)), (.d (.s (bs p0.value.text))), (.d (.s (bs p0.qual))), (.d (.s (bs p0.name))), (.d (.sl 10 (p0.kids.map cGExpr))), (.d (.sl 6 (p0.sub.map cGQuery)))])]⟩) (by kernel_rfl) ?_
        refine nil_in ?_
        refine next_in ?_
        refine ret_in ?_
        refine thenK_ret ?_
        have h := Option.some.inj h; subst h
        exact ret1_step (v := (.d (.b false))) (by kernel_rfl) (by kernel_rfl) (by kernel_rfl)
      · clear h; intro h
        refine skip_in ?_
        refine next_in ?_
        refine seq_in ?_
        refine seq_in ?_
        refine ops_in ?_
        refine sts_ok 5 (s' := ⟨[(19, (.d (.b (!(p0.not_ == p1.not_))))), (18, (.d (.b p1.not_))), (17, (.ptr 3 2)), (16, (.d (.b p0.not_))), (15, (.ptr 2 2)), (14, (.d (.b (!decide (p0.op = p1.op))))), (13, (.d (.i .i64 p1.op))), (12, (.ptr 3 1)), (11, (.d (.i .i64 p0.op))), (10, (.ptr 2 1)), (9, (.d (.b (!decide (p0.kind = p1.kind))))), (8, (.d (.i .i64 p1.kind))), (7, (.ptr 3 0)), (6, (.d (.i .i64 p0.kind))), (5, (.ptr 2 0)), (4, (.d (.b false))), (3, (.ptr 3 0)), (2, (.ptr 2 0)), (0, (vGExpr p0)), (1, (vGExpr p1))], [(3, [(.d (.i .i64 p1.kind)), (.d (.i .i64 p1.op)), (.d (.b p1.not_)), (.d (.i .i64 p1.value.kind)), (.d (.i .i64 p1.value.num)), (.d (.s (bs p1.value.text))), (.d (.s (bs p1.qual))), (.d (.s (bs p1.name))), (.d (.sl 10 (p1.kids.map cGExpr))), (.d (.sl 6 (p1.sub.map cGQuery)))]), (2, [(.d (.i .i64 p0.kind)), (.d (.i .i64 p0.op)), (.d (.b p0.not_)), (.d (.i .i64 p0.value.kind)), (.d (.i .i64 p0.value.num)), (.d (.s (bs p0.value.text))), (.d (.s (bs p0.qual))), (.d (.s (bs p0.name))), (.d (.sl 10 (p0.kids.map cGExpr))), (.d (.sl 6 (p0.sub.map cGQuery)))])]⟩) (by kernel_rfl) ?_
        refine nil_in ?_
        refine next_in ?_
        refine cond_step h (by kernel_rfl) ?_ ?_
        · clear h; intro h
          refine seq_in ?_
          refine ops_in ?_
          refine sts_ok 1 (s' := ⟨[(4, (.d (.b false))), (19, (.d (.b (!(p0.not_ == p1.not_))))), (18, (.d (.b p1.not_))), (17, (.ptr 3 2)), (16, (.d (.b p0.not_))), (15, (.ptr 2 2)), (14, (.d (.b (!decide (p0.op = p1.op))))), (13, (.d (.i .i64 p1.op))), (12, (.ptr 3 1)), (11, (.d (.i .i64 p0.op))), (10, (.ptr 2 1)), (9, (.d (.b (!decide (p0.kind = p1.kind))))), (8, (.d (.i .i64 p1.kind))), (7, (.ptr 3 0)), (6, (.d (.i .i64 p0.kind))), (5, (.ptr 2 0)), (4, (.d (.b false))), (3, (.ptr 3 0)), (2, (.ptr 2 0)), (0, (vGExpr p0)), (1, (vGExpr p1))], [(3, [(.d (.i .i64 p1.kind)), (.d (.i .i64 p1.op)), (.d (.b p1.not_)), (.d (.i .i64 p1.value.kind)), (.d (.i .i64 p1.value.num)), (.d (.s (bs p1.value.text))), (.d (.s (bs p1.qual))), (.d (.s (bs p1.name))), (.d (.sl 10 (p1.kids.map cGExpr))), (.d (.sl 6 (p1.sub.map cGQuery)))]), (2, [(.d (.i .i64 p0.kind)), (.d (.i .i64 p0.op)), (.d (.b p0.not_)), (.d (.i .i64 p0.value.kind)), (.d (.i .i64 p0.value.num)), (.d (.s (bs p0.value.text))), (.d (.s (bs p0.qual))), (.d (.s (bs p0.name))), (.d (.sl 10 (p0.kids.map cGExpr))), (.d (.sl 6 (p0.sub.map cGQuery)))])]⟩) (by kernel_rfl) ?_
          refine nil_in ?_
          refine next_in ?_
          refine ret_in ?_
          refine thenK_ret ?_
          have h := Option.some.inj h; subst h
          exact ret1_step (v := (.d (.b false))) (by kernel_rfl) (by kernel_rfl) (by kernel_rfl)
        · clear h; intro h
          refine skip_in ?_
          refine next_in ?_
          refine seq_in ?_
          refine seq_in ?_
          refine ops_in ?_
          refine sts_ok 4 (s' := ⟨[(23, (vGValue p1.value)), (22, (.ptr 3 3)), (21, (vGValue p0.value)), (20, (.ptr 2 3)), (19, (.d (.b (!(p0.not_ == p1.not_))))), (18, (.d (.b p1.not_))), (17, (.ptr 3 2)), (16, (.d (.b p0.not_))), (15, (.ptr 2 2)), (14, (.d (.b (!decide (p0.op = p1.op))))), (13, (.d (.i .i64 p1.op))), (12, (.ptr 3 1)), (11, (.d (.i .i64 p0.op))), (10, (.ptr 2 1)), (9, (.d (.b (!decide (p0.kind = p1.kind))))), (8, (.d (.i .i64 p1.kind))), (7, (.ptr 3 0)), (6, (.d (.i .i64 p0.kind))), (5, (.ptr 2 0)), (4, (.d (.b false))), (3, (.ptr 3 0)), (2, (.ptr 2 0)), (0, (vGExpr p0)), (1, (vGExpr p1))], [(3, [(.d (.i .i64 p1.kind)), (.d (.i .i64 p1.op)), (.d (.b p1.not_)), (.d (.i .i64 p1.value.kind)), (.d (.i .i64 p1.value.num)), (.d (.s (bs p1.value.text))), (.d (.s (bs p1.qual))), (.d (.s (bs p1.name))), (.d (.sl 10 (p1.kids.map cGExpr))), (.d (.sl 6 (p1.sub.map cGQuery)))]), (2, [(.d (.i .i64 p0.kind)), (.d (.i .i64 p0.op)), (.d (.b p0.not_)), (.d (.i .i64 p0.value.kind)), (.d (.i .i64 p0.value.num)), (.d (.s (bs p0.value.text))), (.d (.s (bs p0.qual))), (.d (.s (bs p0.name))), (.d (.sl 10 (p0.kids.map cGExpr))), (.d (.sl 6 (p0.sub.map cGQuery)))])]⟩) (by kernel_rfl) ?_
          refine call_step (m := wEqValue p0.value p1.value) (args := [(vGValue p0.value), (vGValue p1.value)]) (v' := (fun y => (.d (.b y)))) h (OK_wEqValue p0.value p1.value) (by kernel_rfl) (by kernel_rfl) (fun _ => rfl) ?_
          clear h; intro y1 h
          refine sts_ok 1 (s' := ⟨[(25, (.d (.b (!y1)))), (24, (.d (.b y1))), (23, (vGValue p1.value)), (22, (.ptr 3 3)), (21, (vGValue p0.value)), (20, (.ptr 2 3)), (19, (.d (.b (!(p0.not_ == p1.not_))))), (18, (.d (.b p1.not_))), (17, (.ptr 3 2)), (16, (.d (.b p0.not_))), (15, (.ptr 2 2)), (14, (.d (.b (!decide (p0.op = p1.op))))), (13, (.d (.i .i64 p1.op))), (12, (.ptr 3 1)), (11, (.d (.i .i64 p0.op))), (10, (.ptr 2 1)), (9, (.d (.b (!decide (p0.kind = p1.kind))))), (8, (.d (.i .i64 p1.kind))), (7, (.ptr 3 0)), (6, (.d (.i .i64 p0.kind))), (5, (.ptr 2 0)), (4, (.d (.b false))), (3, (.ptr 3 0)), (2, (.ptr 2 0)), (0, (vGExpr p0)), (1, (vGExpr p1))], [(3, [(.d (.i .i64 p1.kind)), (.d (.i .i64 p1.op)), (.d (.b p1.not_)), (.d (.i .i64 p1.value.kind)), (.d (.i .i64 p1.value.num)), (.d (.s (bs p1.value.text))), (.d (.s (bs p1.qual))), (.d (.s (bs p1.name))), (.d (.sl 10 (p1.kids.map cGExpr))), (.d (.sl 6 (p1.sub.map cGQuery)))]), (2, [(.d (.i .i64 p0.kind)), (.d (.i .i64 p0.op)), (.d (.b p0.not_)), (.d (.i .i64 p0.value.kind)), (.d (.i .i64 p0.value.num)), (.d (.s (bs p0.value.text))), (.d (.s (bs p0.qual))), (.d (.s (bs p0.name))), (.d (.sl 10 (p0.kids.map cGExpr))), (.d (.sl 6 (p0.sub.map cGQuery)))])]⟩) (by kernel_rfl) ?_
          refine nil_in ?_
          refine next_in ?_
          refine cond_step h (by kernel_rfl) ?_ ?_
          · clear h; intro h
            refine seq_in ?_
            refine ops_in ?_
            refine sts_ok 1 (s' := ⟨[(4, (.d (.b false))), (25, (.d (.b (!y1)))), (24, (.d (.b y1))), (23, (vGValue p1.value)), (22, (.ptr 3 3)), (21, (vGValue p0.value)), (20, (.ptr 2 3)), (19, (.d (.b (!(p0.not_ == p1.not_))))), (18, (.d (.b p1.not_))), (17, (.ptr 3 2)), (16, (.d (.b p0.not_))), (15, (.ptr 2 2)), (14, (.d (.b (!decide (p0.op = p1.op))))), (13, (.d (.i .i64 p1.op))), (12, (.ptr 3 1)), (11, (.d (.i .i64 p0.op))), (10, (.ptr 2 1)), (9, (.d (.b (!decide (p0.kind = p1.kind))))), (8, (.d (.i .i64 p1.kind))), (7, (.ptr 3 0)), (6, (.d (.i .i64 p0.kind))), (5, (.ptr 2 0)), (4, (.d (.b false))), (3, (.ptr 3 0)), (2, (.ptr 2 0)), (0, (vGExpr p0)), (1, (vGExpr p1))], [(3, [(.d (.i .i64 p1.kind)), (.d (.i .i64 p1.op)), (.d (.b p1.not_)), (.d (.i .i64 p1.value.kind)), (.d (.i .i64 p1.value.num)), (.d (.s (bs p1.value.text))), (.d (.s (bs p1.qual))), (.d (.s (bs p1.name))), (.d (.sl 10 (p1.kids.map cGExpr))), (.d (.sl 6 (p1.sub.map cGQuery)))]), (2, [(.d (.i .i64 p0.kind)), (.d (.i .i64 p0.op)), (.d (.b p0.not_)), (.d (.i .i64 p0.value.kind)), (.d (.i .i64 p0.value.num)), (.d (.s (bs p0.value.text))), (.d (.s (bs p0.qual))), (.d (.s (bs p0.name))), (.d (.sl 10 (p0.kids.map cGExpr))), (.d (.sl 6 (p0.sub.map cGQuery)))])]⟩) (by kernel_rfl) ?_
            refine nil_in ?_
            refine next_in ?_
            refine ret_in ?_
            refine thenK_ret ?_
            have h := Option.some.inj h; subst h
            exact ret1_step (v := (.d (.b false))) (by kernel_rfl) (by kernel_rfl) (by kernel_rfl)
          · clear h; intro h
            refine skip_in ?_
            refine next_in ?_
            refine seq_in ?_
            refine seq_in ?_
            refine ops_in ?_
            refine sts_ok 5 (s' := ⟨[(30, (.d (.b (!decide (p0.qual = p1.qual))))), (29, (.d (.s (bs p1.qual)))), (28, (.ptr 3 6)), (27, (.d (.s (bs p0.qual)))), (26, (.ptr 2 6)), (25, (.d (.b (!y1)))), (24, (.d (.b y1))), (23, (vGValue p1.value)), (22, (.ptr 3 3)), (21, (vGValue p0.value)), (20, (.ptr 2 3)), (19, (.d (.b (!(p0.not_ == p1.not_))))), (18, (.d (.b p1.not_))), (17, (.ptr 3 2)), (16, (.d (.b p0.not_))), (15, (.ptr 2 2)), (14, (.d (.b (!decide (p0.op = p1.op))))), (13, (.d (.i .i64 p1.op))), (12, (.ptr 3 1)), (11, (.d (.i .i64 p0.op))), (10, (.ptr 2 1)), (9, (.d (.b (!decide (p0.kind = p1.kind))))), (8, (.d (.i .i64 p1.kind))), (7, (.ptr 3 0)), (6, (.d (.i .i64 p0.kind))), (5, (.ptr 2 0)), (4, (.d (.b false))), (3, (.ptr 3 0)), (2, (.ptr 2 0)), (0, (vGExpr p0)), (1, (vGExpr p1))], [(3, [(.d (.i .i64 p1.kind)), (.d (.i .i64 p1.op)), (.d (.b p1.not_)), (.d (.i .i64 p1.value.kind)), (.d (.i .i64 p1.value.num)), (.d (.s (bs p1.value.text))), (.d (.s (bs p1.qual))), (.d (.s (bs p1.name))), (.d (.sl 10 (p1.kids.map cGExpr))), (.d (.sl 6 (p1.sub.map cGQuery)))]), (2, [(.d (.i .i64 p0.kind)), (.d (.i .i64 p0.op)), (.d (.b p0.not_)), (.d (.i .i64 p0.value.kind)), (.d (.i .i64 p0.value.num)), (.d (.s (bs p0.value.text))), (.d (.s (bs p0.qual))), (.d (.s (bs p0.name))), (.d (.sl 10 (p0.kids.map cGExpr))), (.d (.sl 6 (p0.sub.map cGQuery)))])]⟩) (by kernel_rfl) ?_
            refine nil_in ?_
            refine next_in ?_
            refine cond_step h (by kernel_rfl) ?_ ?_
            · clear h; intro h
              refine seq_in ?_
              refine ops_in ?_
              refine sts_ok 1 (s' := ⟨[(4, (.d (.b false))), (30, (.d (.b (!decide (p0.qual = p1.qual))))), (29, (.d (.s (bs p1.qual)))), (28, (.ptr 3 6)), (27, (.d (.s (bs p0.qual)))), (26, (.ptr 2 6)), (25, (.d (.b (!y1)))), (24, (.d (.b y1))), (23, (vGValue p1.value)), (22, (.ptr 3 3)), (21, (vGValue p0.value)), (20, (.ptr 2 3)), (19, (.d (.b (!(p0.not_ == p1.not_))))), (18, (.d (.b p1.not_))), (17, (.ptr 3 2)), (16, (.d (.b p0.not_))), (15, (.ptr 2 2)), (14, (.d (.b (!decide (p0.op = p1.op))))), (13, (.d (.i .i64 p1.op))), (12, (.ptr 3 1)), (11, (.d (.i .i64 p0.op))), (10, (.ptr 2 1)), (9, (.d (.b (!decide (p0.kind = p1.kind))))), (8, (.d (.i .i64 p1.kind))), (7, (.ptr 3 0)), (6, (.d (.i .i64 p0.kind))), (5, (.ptr 2 0)), (4, (.d (.b false))), (3, (.ptr 3 0)), (2, (.ptr 2 0)), (0, (vGExpr p0)), (1, (vGExpr p1))], [(3, [(.d (.i .i64 p1.kind)), (.d (.i .i64 p1.op)), (.d (.b p1.not_)), (.d (.i .i64 p1.value.kind)), (.d (.i .i64 p1.value.num)), (.d (.s (bs p1.value.text))), (.d (.s (bs p1.qual))), (.d (.s (bs p1.name))), (.d (.sl 10 (p1.kids.map cGExpr))), (.d (.sl 6 (p1.sub.map cGQuery)))]), (2, [(.d (.i .i64 p0.kind)), (.d (.i .i64 p0.op)), (.d (.b p0.not_)), (.d (.i .i64 p0.value.kind)), (.d (.i .i64 p0.value.num)), (.d (.s (bs p0.value.text))), (.d (.s (bs p0.qual))), (.d (.s (bs p0.name))), (.d (.sl 10 (p0.kids.map cGExpr))), (.d (.sl 6 (p0.sub.map cGQuery)))])]⟩) (by kernel_rfl) ?_
              refine nil_in ?_
              refine next_in ?_
              refine ret_in ?_
              refine thenK_ret ?_
              have h := Option.some.inj h; subst h
              exact ret1_step (v := (.d (.b false))) (by kernel_rfl) (by kernel_rfl) (by kernel_rfl)
            · clear h; intro h
              refine skip_in ?_
              refine next_in ?_
              refine seq_in ?_
              refine seq_in ?_
              refine ops_in ?_
              refine sts_ok 5 (s' := ⟨[(35, (.d (.b (!decide (p0.name = p1.name))))), (34, (.d (.s (bs p1.name)))), (33, (.ptr 3 7)), (32, (.d (.s (bs p0.name)))), (31, (.ptr 2 7)), (30, (.d (.b (!decide (p0.qual = p1.qual))))), (29, (.d (.s (bs p1.qual)))), (28, (.ptr 3 6)), (27, (.d (.s (bs p0.qual)))), (26, (.ptr 2 6)), (25, (.d (.b (!y1)))), (24, (.d (.b y1))), (23, (vGValue p1.value)), (22, (.ptr 3 3)), (21, (vGValue p0.value)), (20, (.ptr 2 3)), (19, (.d (.b (!(p0.not_ == p1.not_))))), (18, (.d (.b p1.not_))), (17, (.ptr 3 2)), (16, (.d (.b p0.not_))), (15, (.ptr 2 2)), (14, (.d (.b (!decide (p0.op = p1.op))))), (13, (.d (.i .i64 p1.op))), (12, (.ptr 3 1)), (11, (.d (.i .i64 p0.op))), (10, (.ptr 2 1)), (9, (.d (.b (!decide (p0.kind = p1.kind))))), (8, (.d (.i .i64 p1.kind))), (7, (.ptr 3 0)), (6, (.d (.i .i64 p0.kind))), (5, (.ptr 2 0)), (4, (.d (.b false))), (3, (.ptr 3 0)), (2, (.ptr 2 0)), (0, (vGExpr p0)), (1, (vGExpr p1))], [(3, [(.d (.i .i64 p1.kind)), (.d (.i .i64 p1.op)), (.d (.b p1.not_)), (.d (.i .i64 p1.value.kind)), (.d (.i .i64 p1.value.num)), (.d (.s (bs p1.value.text))), (.d (.s (bs p1.qual))), (.d (.s (bs p1.name))), (.d (.sl 10 (p1.kids.map cGExpr))), (.d (.sl 6 (p1.sub.map cGQuery)))]), (2, [(.d (.i .i64 p0.kind)), (.d (.i .i64 p0.op)), (.d (.b p0.not_)), (.d (.i .i64 p0.value.kind)), (.d (.i .i64 p0.value.num)), (.d (.s (bs p0.value.text))), (.d (.s (bs p0.qual))), (.d (.s (bs p0.name))), (.d (.sl 10 (p0.kids.map cGExpr))), (.d (.sl 6 (p0.sub.map cGQuery)))])]⟩) (by kernel_rfl) ?_
              refine nil_in ?_
              refine next_in ?_
              refine cond_step h (by kernel_rfl) ?_ ?_
              · clear h; intro h
                refine seq_in ?_
                refine ops_in ?_
                refine sts_ok 1 (s' := ⟨[(4, (.d (.b false))), (35, (.d (.b (!decide (p0.name = p1.name))))), (34, (.d (.s (bs p1.name)))), (33, (.ptr 3 7)), (32, (.d (.s (bs p0.name)))), (31, (.ptr 2 7)), (30, (.d (.b (!decide (p0.qual = p1.qual))))), (29, (.d (.s (bs p1.qual)))), (28, (.ptr 3 6)), (27, (.d (.s (bs p0.qual)))), (26, (.ptr 2 6)), (25, (.d (.b (!y1)))), (24, (.d (.b y1))), (23, (vGValue p1.value)), (22, (.ptr 3 3)), (21, (vGValue p0.value)), (20, (.ptr 2 3)), (19, (.d (.b (!(p0.not_ == p1.not_))))), (18, (.d (.b p1.not_))), (17, (.ptr 3 2)), (16, (.d (.b p0.not_))), (15, (.ptr 2 2)), (14, (.d (.b (!decide (p0.op = p1.op))))), (13, (.d (.i .i64 p1.op))), (12, (.ptr 3 1)), (11, (.d (.i .i64 p0.op))), (10, (.ptr 2 1)), (9, (.d (.b (!decide (p0.kind = p1.kind))))), (8, (.d (.i .i64 p1.kind))), (7, (.ptr 3 0)), (6, (.d (.i .i64 p0.kind))), (5, (.ptr 2 0)), (4, (.d (.b false))), (3, (.ptr 3 0)), (2, (.ptr 2 0)), (0, (vGExpr p0)), (1, (vGExpr p1))], [(3, [(.d (.i .i64 p1.kind)), (.d (.i .i64 p1.op)), (.d (.b p1.not_)), (.d (.i .i64 p1.value.kind)), (.d (.i .i64 p1.value.num)), (.d (.s (bs p1.value.text))), (.d (.s (bs p1.qual))), (.d (.s (bs p1.name))), (.d (.sl 10 (p1.kids.map cGExpr))), (.d (.sl 6 (p1.sub.map cGQuery)))]), (2, [(.d (.i .i64 p0.kind)), (.d (.i .i64 p0.op)), (.d (.b p0.not_)), (.d (.i .i64 p0.value.kind)), (.d (.i .i64 p0.value.num)), (.d (.s (bs p0.value.text))), (.d (.s (bs p0.qual))), (.d (.s (bs p0.name))), (.d (.sl 10 (p0.kids.map cGExpr))), (.d (.sl 6 (p0.sub.map cGQuery)))])]⟩) (by kernel_rfl) ?_
                refine nil_in ?_
                refine next_in ?_
                refine ret_in ?_
                refine thenK_ret ?_
                have h := Option.some.inj h; subst h
                exact ret1_step (v := (.d (.b false))) (by kernel_rfl) (by kernel_rfl) (by kernel_rfl)
              · clear h; intro h
                refine skip_in ?_
                refine next_in ?_
                refine seq_in ?_
                refine seq_in ?_
                refine ops_in ?_
                refine sts_ok 4 (s' := ⟨[(39, (.d (.sl 10 (p1.kids.map cGExpr)))), (38, (.ptr 3 8)), (37, (.d (.sl 10 (p0.kids.map cGExpr)))), (36, (.ptr 2 8)), (35, (.d (.b (!decide (p0.name = p1.name))))), (34, (.d (.s (bs p1.name)))), (33, (.ptr 3 7)), (32, (.d (.s (bs p0.name)))), (31, (.ptr 2 7)), (30, (.d (.b (!decide (p0.qual = p1.qual))))), (29, (.d (.s (bs p1.qual)))), (28, (.ptr 3 6)), (27, (.d (.s (bs p0.qual)))), (26, (.ptr 2 6)), (25, (.d (.b (!y1)))), (24, (.d (.b y1))), (23, (vGValue p1.value)), (22, (.ptr 3 3)), (21, (vGValue p0.value)), (20, (.ptr 2 3)), (19, (.d (.b (!(p0.not_ == p1.not_))))), (18, (.d (.b p1.not_))), (17, (.ptr 3 2)), (16, (.d (.b p0.not_))), (15, (.ptr 2 2)), (14, (.d (.b (!decide (p0.op = p1.op))))), (13, (.d (.i .i64 p1.op))), (12, (.ptr 3 1)), (11, (.d (.i .i64 p0.op))), (10, (.ptr 2 1)), (9, (.d (.b (!decide (p0.kind = p1.kind))))), (8, (.d (.i .i64 p1.kind))), (7, (.ptr 3 0)), (6, (.d (.i .i64 p0.kind))), (5, (.ptr 2 0)), (4, (.d (.b false))), (3, (.ptr 3 0)), (2, (.ptr 2 0)), (0, (vGExpr p0)), (1, (vGExpr p1))], [(3, [(.d (.i .i64 p1.kind)), (.d (.i .i64 p1.op)), (.d (.b p1.not_)), (.d (.i .i64 p1.value.kind)), (.d (.i .i64 p1.value.num)), (.d (.s (bs p1.value.text))), (.d (.s (bs p1.qual))), (.d (.s (bs p1.name))), (.d (.sl 10 (p1.kids.map cGExpr))), (.d (.sl 6 (p1.sub.map cGQuery)))]), (2, [(.d (.i .i64 p0.kind)), (.d (.i .i64 p0.op)), (.d (.b p0.not_)), (.d (.i .i64 p0.value.kind)), (.d (.i .i64 p0.value.num)), (.d (.s (bs p0.value.text))), (.d (.s (bs p0.qual))), (.d (.s (bs p0.name))), (.d (.sl 10 (p0.kids.map cGExpr))), (.d (.sl 6 (p0.sub.map cGQuery)))])]⟩) (by kernel_rfl) ?_
                refine call_step (m := F_wEqExprS p0.kids p1.kids) (args := [(.d (.sl 10 (p0.kids.map cGExpr))), (.d (.sl 10 (p1.kids.map cGExpr)))]) (v' := (fun y => (.d (.b y)))) h (OK_wEqExprS p0.kids p1.kids) (by kernel_rfl) (by kernel_rfl) (fun _ => rfl) ?_
                clear h; intro y2 h
                refine sts_ok 1 (s' := ⟨[(41, (.d (.b (!y2)))), (40, (.d (.b y2))), (39, (.d (.sl 10 (p1.kids.map cGExpr)))), (38, (.ptr 3 8)), (37, (.d (.sl 10 (p0.kids.map cGExpr)))), (36, (.ptr 2 8)), (35, (.d (.b (!decide (p0.name = p1.name))))), (34, (.d (.s (bs p1.name)))), (33, (.ptr 3 7)), (32, (.d (.s (bs p0.name)))), (31, (.ptr 2 7)), (30, (.d (.b (!decide (p0.qual = p1.qual))))), (29, (.d (.s (bs p1.qual)))), (28, (.ptr 3 6)), (27, (.d (.s (bs p0.qual)))), (26, (.ptr 2 6)), (25, (.d (.b (!y1)))), (24, (.d (.b y1))), (23, (vGValue p1.value)), (22, (.ptr 3 3)), (21, (vGValue p0.value)), (20, (.ptr 2 3)), (19, (.d (.b (!(p0.not_ == p1.not_))))), (18, (.d (.b p1.not_))), (17, (.ptr 3 2)), (16, (.d (.b p0.not_))), (15, (.ptr 2 2)), (14, (.d (.b (!decide (p0.op = p1.op))))), (13, (.d (.i .i64 p1.op))), (12, (.ptr 3 1)), (11, (.d (.i .i64 p0.op))), (10, (.ptr 2 1)), (9, (.d (.b (!decide (p0.kind = p1.kind))))), (8, (.d (.i .i64 p1.kind))), (7, (.ptr 3 0)), (6, (.d (.i .i64 p0.kind))), (5, (.ptr 2 0)), (4, (.d (.b false))), (3, (.ptr 3 0)), (2, (.ptr 2 0)), (0, (vGExpr p0)), (1, (vGExpr p1))], [(3, [(.d (.i .i64 p1.kind)), (.d (.i .i64 p1.op)), (.d (.b p1.not_)), (.d (.i .i64 p1.value.kind)), (.d (.i .i64 p1.value.num)), (.d (.s (bs p1.value.text))), (.d (.s (bs p1.qual))), (.d (.s (bs p1.name))), (.d (.sl 10 (p1.kids.map cGExpr))), (.d (.sl 6 (p1.sub.map cGQuery)))]), (2, [(.d (.i .i64 p0.kind)), (.d (.i .i64 p0.op)), (.d (.b p0.not_)), (.d (.i .i64 p0.value.kind)), (.d (.i .i64 p0.value.num)), (.d (.s (bs p0.value.text))), (.d (.s (bs p0.qual))), (.d (.s (bs p0.name))), (.d (.sl 10 (p0.kids.map cGExpr))), (.d (.sl 6 (p0.sub.map cGQuery)))])]⟩) (by kernel_rfl) ?_
                refine nil_in ?_
                refine next_in ?_
                refine cond_step h (by kernel_rfl) ?_ ?_
                · clear h; intro h
                  refine seq_in ?_
                  refine ops_in ?_
                  refine sts_ok 1 (s' := ⟨[(4, (.d (.b false))), (41, (.d (.b (!y2)))), (40, (.d (.b y2))), (39, (.d (.sl 10 (p1.kids.map cGExpr)))), (38, (.ptr 3 8)), (37, (.d (.sl 10 (p0.kids.map cGExpr)))), (36, (.ptr 2 8)), (35, (.d (.b (!decide (p0.name = p1.name))))), (34, (.d (.s (bs p1.name)))), (33, (.ptr 3 7)), (32, (.d (.s (bs p0.name)))), (31, (.ptr 2 7)), (30, (.d (.b (!decide (p0.qual = p1.qual))))), (29, (.d (.s (bs p1.qual)))), (28, (.ptr 3 6)), (27, (.d (.s (bs p0.qual)))), (26, (.ptr 2 6)), (25, (.d (.b (!y1)))), (24, (.d (.b y1))), (23, (vGValue p1.value)), (22, (.ptr 3 3)), (21, (vGValue p0.value)), (20, (.ptr 2 3)), (19, (.d (.b (!(p0.not_ == p1.not_))))), (18, (.d (.b p1.not_))), (17, (.ptr 3 2)), (16, (.d (.b p0.not_))), (15, (.ptr 2 2)), (14, (.d (.b (!decide (p0.op = p1.op))))), (13, (.d (.i .i64 p1.op))), (12, (.ptr 3 1)), (11, (.d (.i .i64 p0.op))), (10, (.ptr 2 1)), (9, (.d (.b (!decide (p0.kind = p1.kind))))), (8, (.d (.i .i64 p1.kind))), (7, (.ptr 3 0)), (6, (.d (.i .i64 p0.kind))), (5, (.ptr 2 0)), (4, (.d (.b false))), (3, (.ptr 3 0)), (2, (.ptr 2 0)), (0, (vGExpr p0)), (1, (vGExpr p1))], [(3, [(.d (.i .i64 p1.kind)), (.d (.i .i64 p1.op)), (.d (.b p1.not_)), (.d (.i .i64 p1.value.kind)), (.d (.i .i64 p1.value.num)), (.d (.s (bs p1.value.text))), (.d (.s (bs p1.qual))), (.d (.s (bs p1.name))), (.d (.sl 10 (p1.kids.map cGExpr))), (.d (.sl 6 (p1.sub.map cGQuery)))]), (2, [(.d (.i .i64 p0.kind)), (.d (.i .i64 p0.op)), (.d (.b p0.not_)), (.d (.i .i64 p0.value.kind)), (.d (.i .i64 p0.value.num)), (.d (.s (bs p0.value.text))), (.d (.s (bs p0.qual))), (.d (.s (bs p0.name))), (.d (.sl 10 (p0.kids.map cGExpr))), (.d (.sl 6 (p0.sub.map cGQuery)))])]⟩) (by kernel_rfl) ?_
                  refine nil_in ?_
                  refine next_in ?_
                  refine ret_in ?_
                  refine thenK_ret ?_
                  have h := Option.some.inj h; subst h
                  exact ret1_step (v := (.d (.b false))) (by kernel_rfl) (by kernel_rfl) (by kernel_rfl)
                · clear h; intro h
                  refine skip_in ?_
                  refine next_in ?_
                  refine seq_in ?_
                  refine seq_in ?_
                  refine ops_in ?_
                  refine sts_ok 4 (s' := ⟨[(45, (.d (.sl 6 (p1.sub.map cGQuery)))), (44, (.ptr 3 9)), (43, (.d (.sl 6 (p0.sub.map cGQuery)))), (42, (.ptr 2 9)), (41, (.d (.b (!y2)))), (40, (.d (.b y2))), (39, (.d (.sl 10 (p1.kids.map cGExpr)))), (38, (.ptr 3 8)), (37, (.d (.sl 10 (p0.kids.map cGExpr)))), (36, (.ptr 2 8)), (35, (.d (.b (!decide (p0.name = p1.name))))), (34, (.d (.s (bs p1.name)))), (33, (.ptr 3 7)), (32, (.d (.s (bs p0.name)))), (31, (.ptr 2 7)), (30, (.d (.b (!decide (p0.qual = p1.qual))))), (29, (.d (.s (bs p1.qual)))), (28, (.ptr 3 6)), (27, (.d (.s (bs p0.qual)))), (26, (.ptr 2 6)), (25, (.d (.b (!y1)))), (24, (.d (.b y1))), (23, (vGValue p1.value)), (22, (.ptr 3 3)), (21, (vGValue p0.value)), (20, (.ptr 2 3)), (19, (.d (.b (!(p0.not_ == p1.not_))))), (18, (.d (.b p1.not_))), (17, (.ptr 3 2)), (16, (.d (.b p0.not_))), (15, (.ptr 2 2)), (14, (.d (.b (!decide (p0.op = p1.op))))), (13, (.d (.i .i64 p1.op))), (12, (.ptr 3 1)), (11, (.d (.i .i64 p0.op))), (10, (.ptr 2 1)), (9, (.d (.b (!decide (p0.kind = p1.kind))))), (8, (.d (.i .i64 p1.kind))), (7, (.ptr 3 0)), (6, (.d (.i .i64 p0.kind))), (5, (.ptr 2 0)), (4, (.d (.b false))), (3, (.ptr 3 0)), (2, (.ptr 2 0)), (0, (vGExpr p0)), (1, (vGExpr p1))], [(3, [(.d (.i .i64 p1.kind)), (.d (.i .i64 p1.op)), (.d (.b p1.not_)), (.d (.i .i64 p1.value.kind)), (.d (.i .i64 p1.value.num)), (.d (.s (bs p1.value.text))), (.d (.s (bs p1.qual))), (.d (.s (bs p1.name))), (.d (.sl 10 (p1.kids.map cGExpr))), (.d (.sl 6 (p1.sub.map cGQuery)))]), (2, [(.d (.i .i64 p0.kind)), (.d (.i .i64 p0.op)), (.d (.b p0.not_)), (.d (.i .i64 p0.value.kind)), (.d (.i .i64 p0.value.num)), (.d (.s (bs p0.value.text))), (.d (.s (bs p0.qual))), (.d (.s (bs p0.name))), (.d (.sl 10 (p0.kids.map cGExpr))), (.d (.sl 6 (p0.sub.map cGQuery)))])]⟩) (by kernel_rfl) ?_
                  refine call_step (m := F_wEqQueryS p0.sub p1.sub) (args := [(.d (.sl 6 (p0.sub.map cGQuery))), (.d (.sl 6 (p1.sub.map cGQuery)))]) (v' := (fun y => (.d (.b y)))) h (OK_wEqQueryS p0.sub p1.sub) (by kernel_rfl) (by kernel_rfl) (fun _ => rfl) ?_
                  clear h; intro y3 h
                  refine sts_ok 1 (s' := ⟨[(47, (.d (.b (!y3)))), (46, (.d (.b y3))), (45, (.d (.sl 6 (p1.sub.map cGQuery)))), (44, (.ptr 3 9)), (43, (.d (.sl 6 (p0.sub.map cGQuery)))), (42, (.ptr 2 9)), (41, (.d (.b (!y2)))), (40, (.d (.b y2))), (39, (.d (.sl 10 (p1.kids.map cGExpr)))), (38, (.ptr 3 8)), (37, (.d (.sl 10 (p0.kids.map cGExpr)))), (36, (.ptr 2 8)), (35, (.d (.b (!decide (p0.name = p1.name))))), (34, (.d (.s (bs p1.name)))), (33, (.ptr 3 7)), (32, (.d (.s (bs p0.name)))), (31, (.ptr 2 7)), (30, (.d (.b (!decide (p0.qual = p1.qual))))), (29, (.d (.s (bs p1.qual)))), (28, (.ptr 3 6)), (27, (.d (.s (bs p0.qual)))), (26, (.ptr 2 6)), (25, (.d (.b (!y1)))), (24, (.d (.b y1))), (23, (vGValue p1.value)), (22, (.ptr 3 3)), (21, (vGValue p0.value)), (20, (.ptr 2 3)), (19, (.d (.b (!(p0.not_ == p1.not_))))), (18, (.d (.b p1.not_))), (17, (.ptr 3 2)), (16, (.d (.b p0.not_))), (15, (.ptr 2 2)), (14, (.d (.b (!decide (p0.op = p1.op))))), (13, (.d (.i .i64 p1.op))), (12, (.ptr 3 1)), (11, (.d (.i .i64 p0.op))), (10, (.ptr 2 1)), (9, (.d (.b (!decide (p0.kind = p1.kind))))), (8, (.d (.i .i64 p1.kind))), (7, (.ptr 3 0)), (6, (.d (.i .i64 p0.kind))), (5, (.ptr 2 0)), (4, (.d (.b false))), (3, (.ptr 3 0)), (2, (.ptr 2 0)), (0, (vGExpr p0)), (1, (vGExpr p1))], [(3, [(.d (.i .i64 p1.kind)), (.d (.i .i64 p1.op)), (.d (.b p1.not_)), (.d (.i .i64 p1.value.kind)), (.d (.i .i64 p1.value.num)), (.d (.s (bs p1.value.text))), (.d (.s (bs p1.qual))), (.d (.s (bs p1.name))), (.d (.sl 10 (p1.kids.map cGExpr))), (.d (.sl 6 (p1.sub.map cGQuery)))]), (2, [(.d (.i .i64 p0.kind)), (.d (.i .i64 p0.op)), (.d (.b p0.not_)), (.d (.i .i64 p0.value.kind)), (.d (.i .i64 p0.value.num)), (.d (.s (bs p0.value.text))), (.d (.s (bs p0.qual))), (.d (.s (bs p0.name))), (.d (.sl 10 (p0.kids.map cGExpr))), (.d (.sl 6 (p0.sub.map cGQuery)))])]⟩) (by kernel_rfl) ?_
                  refine nil_in ?_
                  refine next_in ?_
                  refine cond_step h (by kernel_rfl) ?_ ?_
                  · clear h; intro h
                    refine seq_in ?_
                    refine ops_in ?_
                    refine sts_ok 1 (s' := ⟨[(4, (.d (.b false))), (47, (.d (.b (!y3)))), (46, (.d (.b y3))), (45, (.d (.sl 6 (p1.sub.map cGQuery)))), (44, (.ptr 3 9)), (43, (.d (.sl 6 (p0.sub.map cGQuery)))), (42, (.ptr 2 9)), (41, (.d (.b (!y2)))), (40, (.d (.b y2))), (39, (.d (.sl 10 (p1.kids.map cGExpr)))), (38, (.ptr 3 8)), (37, (.d (.sl 10 (p0.kids.map cGExpr)))), (36, (.ptr 2 8)), (35, (.d (.b (!decide (p0.name = p1.name))))), (34, (.d (.s (bs p1.name)))), (33, (.ptr 3 7)), (32, (.d (.s (bs p0.name)))), (31, (.ptr 2 7)), (30, (.d (.b (!decide (p0.qual = p1.qual))))), (29, (.d (.s (bs p1.qual)))), (28, (.ptr 3 6)), (27, (.d (.s (bs p0.qual)))), (26, (.ptr 2 6)), (25, (.d (.b (!y1)))), (24, (.d (.b y1))), (23, (vGValue p1.value)), (22, (.ptr 3 3)), (21, (vGValue p0.value)), (20, (.ptr 2 3)), (19, (.d (.b (!(p0.not_ == p1.not_))))), (18, (.d (.b p1.not_))), (17, (.ptr 3 2)), (16, (.d (.b p0.not_))), (15, (.ptr 2 2)), (14, (.d (.b (!decide (p0.op = p1.op))))), (13, (.d (.i .i64 p1.op))), (12, (.ptr 3 1)), (11, (.d (.i .i64 p0.op))), (10, (.ptr 2 1)), (9, (.d (.b (!decide (p0.kind = p1.kind))))), (8, (.d (.i .i64 p1.kind))), (7, (.ptr 3 0)), (6, (.d (.i .i64 p0.kind))), (5, (.ptr 2 0)), (4, (.d (.b false))), (3, (.ptr 3 0)), (2, (.ptr 2 0)), (0, (vGExpr p0)), (1, (vGExpr p1))], [(3, [(.d (.i .i64 p1.kind)), (.d (.i .i64 p1.op)), (.d (.b p1.not_)), (.d (.i .i64 p1.value.kind)), (.d (.i .i64 p1.value.num)), (.d (.s (bs p1.value.text))), (.d (.s (bs p1.qual))), (.d (.s (bs p1.name))), (.d (.sl 10 (p1.kids.map cGExpr))), (.d (.sl 6 (p1.sub.map cGQuery)))]), (2, [(.d (.i .i64 p0.kind)), (.d (.i .i64 p0.op)), (.d (.b p0.not_)), (.d (.i .i64 p0.value.kind)), (.d (.i .i64 p0.value.num)), (.d (.s (bs p0.value.text))), (.d (.s (bs p0.qual))), (.d (.s (bs p0.name))), (.d (.sl 10 (p0.kids.map cGExpr))), (.d (.sl 6 (p0.sub.map cGQuery)))])]⟩) (by kernel_rfl) ?_
                    refine nil_in ?_
                    refine next_in ?_
                    refine ret_in ?_
                    refine thenK_ret ?_
                    have h := Option.some.inj h; subst h
                    exact ret1_step (v := (.d (.b false))) (by kernel_rfl) (by kernel_rfl) (by kernel_rfl)
                  · clear h; intro h
                    refine skip_in ?_
                    refine next_in ?_
                    refine seq_in ?_
                    refine ops_in ?_
                    refine sts_ok 1 (s' := ⟨[(4, (.d (.b true))), (47, (.d (.b (!y3)))), (46, (.d (.b y3))), (45, (.d (.sl 6 (p1.sub.map cGQuery)))), (44, (.ptr 3 9)), (43, (.d (.sl 6 (p0.sub.map cGQuery)))), (42, (.ptr 2 9)), (41, (.d (.b (!y2)))), (40, (.d (.b y2))), (39, (.d (.sl 10 (p1.kids.map cGExpr)))), (38, (.ptr 3 8)), (37, (.d (.sl 10 (p0.kids.map cGExpr)))), (36, (.ptr 2 8)), (35, (.d (.b (!decide (p0.name = p1.name))))), (34, (.d (.s (bs p1.name)))), (33, (.ptr 3 7)), (32, (.d (.s (bs p0.name)))), (31, (.ptr 2 7)), (30, (.d (.b (!decide (p0.qual = p1.qual))))), (29, (.d (.s (bs p1.qual)))), (28, (.ptr 3 6)), (27, (.d (.s (bs p0.qual)))), (26, (.ptr 2 6)), (25, (.d (.b (!y1)))), (24, (.d (.b y1))), (23, (vGValue p1.value)), (22, (.ptr 3 3)), (21, (vGValue p0.value)), (20, (.ptr 2 3)), (19, (.d (.b (!(p0.not_ == p1.not_))))), (18, (.d (.b p1.not_))), (17, (.ptr 3 2)), (16, (.d (.b p0.not_))), (15, (.ptr 2 2)), (14, (.d (.b (!decide (p0.op = p1.op))))), (13, (.d (.i .i64 p1.op))), (12, (.ptr 3 1)), (11, (.d (.i .i64 p0.op))), (10, (.ptr 2 1)), (9, (.d (.b (!decide (p0.kind = p1.kind))))), (8, (.d (.i .i64 p1.kind))), (7, (.ptr 3 0)), (6, (.d (.i .i64 p0.kind))), (5, (.ptr 2 0)), (4, (.d (.b false))), (3, (.ptr 3 0)), (2, (.ptr 2 0)), (0, (vGExpr p0)), (1, (vGExpr p1))], [(3, [(.d (.i .i64 p1.kind)), (.d (.i .i64 p1.op)), (.d (.b p1.not_)), (.d (.i .i64 p1.value.kind)), (.d (.i .i64 p1.value.num)), (.d (.s (bs p1.value.text))), (.d (.s (bs p1.qual))), (.d (.s (bs p1.name))), (.d (.sl 10 (p1.kids.map cGExpr))), (.d (.sl 6 (p1.sub.map cGQuery)))]), (2, [(.d (.i .i64 p0.kind)), (.d (.i .i64 p0.op)), (.d (.b p0.not_)), (.d (.i .i64 p0.value.kind)), (.d (.i .i64 p0.value.num)), (.d (.s (bs p0.value.text))), (.d (.s (bs p0.qual))), (.d (.s (bs p0.name))), (.d (.sl 10 (p0.kids.map cGExpr))), (.d (.sl 6 (p0.sub.map cGQuery)))])]⟩) (by kernel_rfl) ?_
                    refine nil_in ?_
                    refine next_in ?_
                    refine ret_in ?_
                    have h := Option.some.inj h; subst h
                    exact ret1_step (v := (.d (.b true))) (by kernel_rfl) (by kernel_rfl) (by kernel_rfl)
  · intro F_wEqQueryS_L0 OK_wEqQueryS_L0 p0 p1 r h
    refine acalls_of_fn trwEqQueryS (Nat.le_of_ble_eq_true rfl) (by simp) ?_
    show avc Try.prog acwEqQueryS (qwEqQueryS _) ⟨[(0, (.d (.sl 6 (p0.map cGQuery)))), (1, (.d (.sl 6 (p1.map cGQuery))))], []⟩
    delta acwEqQueryS
    refine seq_in ?_
    refine ops_in ?_
    refine sts_ok 1 (s' := ⟨[(4, (.d (.b false))), (0, (.d (.sl 6 (p0.map cGQuery)))), (1, (.d (.sl 6 (p1.map cGQuery))))], []⟩) (by kernel_rfl) ?_
    refine nil_in ?_
    refine next_in ?_
    refine seq_in ?_
    refine seq_in ?_
    refine ops_in ?_
    refine sts_ok 1 (s' := ⟨[(6, (.d (.sl 6 (p0.map cGQuery)))), (4, (.d (.b false))), (0, (.d (.sl 6 (p0.map cGQuery)))), (1, (.d (.sl 6 (p1.map cGQuery))))], []⟩) (by kernel_rfl) ?_
    refine p_step (v' := (.d (.i .i64 (p0.length : Int)))) rfl rfl (vop_len (sz := 6) (l := p0) (f := cGQuery) (by kernel_rfl) (by kernel_rfl)) ?_
    refine sts_ok 1 (s' := ⟨[(8, (.d (.sl 6 (p1.map cGQuery)))), (7, (.d (.i .i64 (p0.length : Int)))), (6, (.d (.sl 6 (p0.map cGQuery)))), (4, (.d (.b false))), (0, (.d (.sl 6 (p0.map cGQuery)))), (1, (.d (.sl 6 (p1.map cGQuery))))], []⟩) (by kernel_rfl) ?_
    refine p_step (v' := (.d (.i .i64 (p1.length : Int)))) rfl rfl (vop_len (sz := 6) (l := p1) (f := cGQuery) (by kernel_rfl) (by kernel_rfl)) ?_
    refine sts_ok 1 (s' := ⟨[(10, (.d (.b (!decide ((p0.length : Int) = (p1.length : Int)))))), (9, (.d (.i .i64 (p1.length : Int)))), (8, (.d (.sl 6 (p1.map cGQuery)))), (7, (.d (.i .i64 (p0.length : Int)))), (6, (.d (.sl 6 (p0.map cGQuery)))), (4, (.d (.b false))), (0, (.d (.sl 6 (p0.map cGQuery)))), (1, (.d (.sl 6 (p1.map cGQuery))))], []⟩) (by kernel_rfl) ?_
    refine nil_in ?_
    refine next_in ?_
    refine cond_step h (by kernel_rfl) ?_ ?_
    · clear h; intro h
      refine seq_in ?_
      refine ops_in ?_
      refine sts_ok 1 (s' := ⟨[(4, (.d (.b false))), (10, (.d (.b (!decide ((p0.length : Int) = (p1.length : Int)))))), (9, (.d (.i .i64 (p1.length : Int)))), (8, (.d (.sl 6 (p1.map cGQuery)))), (7, (.d (.i .i64 (p0.length : Int)))), (6, (.d (.sl 6 (p0.map cGQuery)))), (4, (.d (.b false))), (0, (.d (.sl 6 (p0.map cGQuery)))), (1, (.d (.sl 6 (p1.map cGQuery))))], []⟩) (by kernel_rfl) ?_
      refine nil_in ?_
      refine next_in ?_
      refine ret_in ?_
      refine thenK_ret ?_
      have h := Option.some.inj h; subst h
      exact ret1_step (v := (.d (.b false))) (by kernel_rfl) (by kernel_rfl) (by kernel_rfl)
    · clear h; intro h
      refine skip_in ?_
      refine next_in ?_
      refine seq_in ?_
      refine seq_in ?_
      refine ops_in ?_
      refine sts_ok 1 (s' := ⟨[(5, (.d (.i .i64 0))), (10, (.d (.b (!decide ((p0.length : Int) = (p1.length : Int)))))), (9, (.d (.i .i64 (p1.length : Int)))), (8, (.d (.sl 6 (p1.map cGQuery)))), (7, (.d (.i .i64 (p0.length : Int)))), (6, (.d (.sl 6 (p0.map cGQuery)))), (4, (.d (.b false))), (0, (.d (.sl 6 (p0.map cGQuery)))), (1, (.d (.sl 6 (p1.map cGQuery))))], []⟩) (by kernel_rfl) ?_
      refine nil_in ?_
      refine next_in ?_
      refine block_in ?_
      exact loop_go (s' := stwEqQueryS_L0 p0 p1 0) (wk_ren [] (by kernel_rfl) (er_cons (vr_same (by kernel_rfl) (by kernel_rfl)) (er_cons (vr_same (by kernel_rfl) (by kernel_rfl)) (er_cons (vr_same (by kernel_rfl) (by kernel_rfl)) (er_nil)))) (br_nil)) (OK_wEqQueryS_L0 p0 p1 0 _ h)
  · intro F_wEqQueryS_L0 F_wEqQuery OK_wEqQueryS_L0 OK_wEqQuery p0 p1 x5 r h
    delta acwEqQueryS_L0
    refine loop_unroll ?_
    refine seq_in ?_
    refine seq_in ?_
    refine ops_in ?_
    refine sts_ok 2 (s' := ⟨(12, (.d (.sl 6 (p0.map cGQuery)))) :: (11, (.d (.i .i64 x5))) :: (stwEqQueryS_L0 p0 p1 x5).env, (stwEqQueryS_L0 p0 p1 x5).bx⟩) (by kernel_rfl) ?_
    refine p_step (v' := (.d (.i .i64 (p0.length : Int)))) rfl rfl (vop_len (sz := 6) (l := p0) (f := cGQuery) (by kernel_rfl) (by kernel_rfl)) ?_
    refine sts_ok 1 (s' := ⟨(14, (.d (.b (decide (x5 < (p0.length : Int)))))) :: (13, (.d (.i .i64 (p0.length : Int)))) :: (12, (.d (.sl 6 (p0.map cGQuery)))) :: (11, (.d (.i .i64 x5))) :: (stwEqQueryS_L0 p0 p1 x5).env, (stwEqQueryS_L0 p0 p1 x5).bx⟩) (by kernel_rfl) ?_
    refine nil_in ?_
    refine next_in ?_
    refine cond_step h (by kernel_rfl) ?_ ?_
    · clear h; intro h
      refine skip_in ?_
      refine next_in ?_
      refine seq_in ?_
      refine block_in ?_
      refine seq_in ?_
      refine dops_in ?_
      refine dsts_ok 2 (s' := ⟨(18, (.d (.i .i64 x5))) :: (17, (.d (.sl 6 (p0.map cGQuery)))) :: (14, (.d (.b (decide (x5 < (p0.length : Int)))))) :: (13, (.d (.i .i64 (p0.length : Int)))) :: (12, (.d (.sl 6 (p0.map cGQuery)))) :: (11, (.d (.i .i64 x5))) :: (stwEqQueryS_L0 p0 p1 x5).env, (stwEqQueryS_L0 p0 p1 x5).bx⟩) (by kernel_rfl) ?_
      refine dv_step (m := idx p0 x5) (v' := fun y => (.rp [(.b y.distinct), (.sl 13 (y.items.map cGItem)), (.sl 3 (y.from_.map cGSource)), (.sl 10 (y.where_.map cGExpr)), (.sl 11 (y.order.map cGSortKey)), (.i .i64 y.limit)])) h rfl rfl (fun y hy => vop_ia (l := p0) (f := cGQuery) (g := oGQuery) (k := .i64) hy cGQuery_eq (by kernel_rfl) (by kernel_rfl) (by kernel_rfl)) ?_
      clear h; intro y1 h
      refine dsts_ok 3 (s' := ⟨(22, (.d (.i .i64 x5))) :: (21, (.d (.sl 6 (p1.map cGQuery)))) :: (20, (vGQuery y1)) :: (19, (.rp [(.b y1.distinct), (.sl 13 (y1.items.map cGItem)), (.sl 3 (y1.from_.map cGSource)), (.sl 10 (y1.where_.map cGExpr)), (.sl 11 (y1.order.map cGSortKey)), (.i .i64 y1.limit)])) :: (18, (.d (.i .i64 x5))) :: (17, (.d (.sl 6 (p0.map cGQuery)))) :: (14, (.d (.b (decide (x5 < (p0.length : Int)))))) :: (13, (.d (.i .i64 (p0.length : Int)))) :: (12, (.d (.sl 6 (p0.map cGQuery)))) :: (11, (.d (.i .i64 x5))) :: (stwEqQueryS_L0 p0 p1 x5).env, (stwEqQueryS_L0 p0 p1 x5).bx⟩) (by kernel_rfl) ?_
      refine dv_step (m := idx p1 x5) (v' := fun y => (.rp [(.b y.distinct), (.sl 13 (y.items.map cGItem)), (.sl 3 (y.from_.map cGSource)), (.sl 10 (y.where_.map cGExpr)), (.sl 11 (y.order.map cGSortKey)), (.i .i64 y.limit)])) h rfl rfl (fun y hy => vop_ia (l := p1) (f := cGQuery) (g := oGQuery) (k := .i64) hy cGQuery_eq (by kernel_rfl) (by kernel_rfl) (by kernel_rfl)) ?_
      clear h; intro y2 h
      refine dsts_ok 1 (s' := ⟨(24, (vGQuery y2)) :: (23, (.rp [(.b y2.distinct), (.sl 13 (y2.items.map cGItem)), (.sl 3 (y2.from_.map cGSource)), (.sl 10 (y2.where_.map cGExpr)), (.sl 11 (y2.order.map cGSortKey)), (.i .i64 y2.limit)])) :: (22, (.d (.i .i64 x5))) :: (21, (.d (.sl 6 (p1.map cGQuery)))) :: (20, (vGQuery y1)) :: (19, (.rp [(.b y1.distinct), (.sl 13 (y1.items.map cGItem)), (.sl 3 (y1.from_.map cGSource)), (.sl 10 (y1.where_.map cGExpr)), (.sl 11 (y1.order.map cGSortKey)), (.i .i64 y1.limit)])) :: (18, (.d (.i .i64 x5))) :: (17, (.d (.sl 6 (p0.map cGQuery)))) :: (14, (.d (.b (decide (x5 < (p0.length : Int)))))) :: (13, (.d (.i .i64 (p0.length : Int)))) :: (12, (.d (.sl 6 (p0.map cGQuery)))) :: (11, (.d (.i .i64 x5))) :: (stwEqQueryS_L0 p0 p1 x5).env, (stwEqQueryS_L0 p0 p1 x5).bx⟩) (by kernel_rfl) ?_
      refine dcall_step (m := F_wEqQuery y1 y2) (args := [(vGQuery y1), (vGQuery y2)]) (v' := (fun y => (.d (.b y)))) h (OK_wEqQuery y1 y2) (by kernel_rfl) (by kernel_rfl) (fun _ => rfl) ?_
      clear h; intro y3 h
      refine dsts_ok 1 (s' := ⟨(26, (.d (.b (!y3)))) :: (25, (.d (.b y3))) :: (24, (vGQuery y2)) :: (23, (.rp [(.b y2.distinct), (.sl 13 (y2.items.map cGItem)), (.sl 3 (y2.from_.map cGSource)), (.sl 10 (y2.where_.map cGExpr)), (.sl 11 (y2.order.map cGSortKey)), (.i .i64 y2.limit)])) :: (22, (.d (.i .i64 x5))) :: (21, (.d (.sl 6 (p1.map cGQuery)))) :: (20, (vGQuery y1)) :: (19, (.rp [(.b y1.distinct), (.sl 13 (y1.items.map cGItem)), (.sl 3 (y1.from_.map cGSource)), (.sl 10 (y1.where_.map cGExpr)), (.sl 11 (y1.order.map cGSortKey)), (.i .i64 y1.limit)])) :: (18, (.d (.i .i64 x5))) :: (17, (.d (.sl 6 (p0.map cGQuery)))) :: (14, (.d (.b (decide (x5 < (p0.length : Int)))))) :: (13, (.d (.i .i64 (p0.length : Int)))) :: (12, (.d (.sl 6 (p0.map cGQuery)))) :: (11, (.d (.i .i64 x5))) :: (stwEqQueryS_L0 p0 p1 x5).env, (stwEqQueryS_L0 p0 p1 x5).bx⟩) (by kernel_rfl) ?_
      refine dnil_in (by kernel_rfl) (by kernel_rfl) ?_
      refine next_in ?_
      refine cond_step h (by kernel_rfl) ?_ ?_
      · clear h; intro h
        refine seq_in ?_
        refine ops_in ?_
        refine sts_ok 1 (s' := ⟨(4, (.d (.b false))) :: (26, (.d (.b (!y3)))) :: (25, (.d (.b y3))) :: (24, (vGQuery y2)) :: (23, (.rp [(.b y2.distinct), (.sl 13 (y2.items.map cGItem)), (.sl 3 (y2.from_.map cGSource)), (.sl 10 (y2.where_.map cGExpr)), (.sl 11 (y2.order.map cGSortKey)), (.i .i64 y2.limit)])) :: (22, (.d (.i .i64 x5))) :: (21, (.d (.sl 6 (p1.map cGQuery)))) :: (20, (vGQuery y1)) :: (19, (.rp [(.b y1.distinct), (.sl 13 (y1.items.map cGItem)), (.sl 3 (y1.from_.map cGSource)), (.sl 10 (y1.where_.map cGExpr)), (.sl 11 (y1.order.map cGSortKey)), (.i .i64 y1.limit)])) :: (18, (.d (.i .i64 x5))) :: (17, (.d (.sl 6 (p0.map cGQuery)))) :: (14, (.d (.b (decide (x5 < (p0.length : Int)))))) :: (13, (.d (.i .i64 (p0.length : Int)))) :: (12, (.d (.sl 6 (p0.map cGQuery)))) :: (11, (.d (.i .i64 x5))) :: (stwEqQueryS_L0 p0 p1 x5).env, (stwEqQueryS_L0 p0 p1 x5).bx⟩) (by kernel_rfl) ?_
        refine nil_in ?_
        refine next_in ?_
        refine ret_in ?_
        refine blockK_ret ?_
        refine thenK_ret ?_
        refine thenK_ret ?_
        refine blockK_ret ?_
        refine thenK_ret ?_
        have h := Option.some.inj h; subst h
        exact ret1_step (v := (.d (.b false))) (by kernel_rfl) (by kernel_rfl) (by kernel_rfl)
      · clear h; intro h
        refine skip_in ?_
        refine blockK_norm ?_
        refine next_in ?_
        refine ops_in ?_
        refine sts_ok 3 (s' := ⟨(5, (.d (.i .i64 (IntKind.wrap .i64 (x5 + 1))))) :: (16, (.d (.i .i64 (IntKind.wrap .i64 (x5 + 1))))) :: (15, (.d (.i .i64 x5))) :: (26, (.d (.b (!y3)))) :: (25, (.d (.b y3))) :: (24, (vGQuery y2)) :: (23, (.rp [(.b y2.distinct), (.sl 13 (y2.items.map cGItem)), (.sl 3 (y2.from_.map cGSource)), (.sl 10 (y2.where_.map cGExpr)), (.sl 11 (y2.order.map cGSortKey)), (.i .i64 y2.limit)])) :: (22, (.d (.i .i64 x5))) :: (21, (.d (.sl 6 (p1.map cGQuery)))) :: (20, (vGQuery y1)) :: (19, (.rp [(.b y1.distinct), (.sl 13 (y1.items.map cGItem)), (.sl 3 (y1.from_.map cGSource)), (.sl 10 (y1.where_.map cGExpr)), (.sl 11 (y1.order.map cGSortKey)), (.i .i64 y1.limit)])) :: (18, (.d (.i .i64 x5))) :: (17, (.d (.sl 6 (p0.map cGQuery)))) :: (14, (.d (.b (decide (x5 < (p0.length : Int)))))) :: (13, (.d (.i .i64 (p0.length : Int)))) :: (12, (.d (.sl 6 (p0.map cGQuery)))) :: (11, (.d (.i .i64 x5))) :: (stwEqQueryS_L0 p0 p1 x5).env, (stwEqQueryS_L0 p0 p1 x5).bx⟩) (by kernel_rfl) ?_
        refine nil_in ?_
        exact loop_back (s' := stwEqQueryS_L0 p0 p1 (IntKind.wrap .i64 (x5 + 1))) (wk_ren [] (by kernel_rfl) (er_cons (vr_same (by kernel_rfl) (by kernel_rfl)) (er_cons (vr_same (by kernel_rfl) (by kernel_rfl)) (er_cons (vr_same (by kernel_rfl) (by kernel_rfl)) (er_nil)))) (br_nil)) (OK_wEqQueryS_L0 p0 p1 (IntKind.wrap .i64 (x5 + 1)) _ h)
    · clear h; intro h
      refine exit_in ?_
      refine thenK_exit ?_
      refine thenK_exit ?_
      refine blockK_here ?_
      refine next_in ?_
      refine seq_in ?_
      refine ops_in ?_
      refine sts_ok 1 (s' := ⟨(4, (.d (.b true))) :: (14, (.d (.b (decide (x5 < (p0.length : Int)))))) :: (13, (.d (.i .i64 (p0.length : Int)))) :: (12, (.d (.sl 6 (p0.map cGQuery)))) :: (11, (.d (.i .i64 x5))) :: (stwEqQueryS_L0 p0 p1 x5).env, (stwEqQueryS_L0 p0 p1 x5).bx⟩) (by kernel_rfl) ?_
      refine nil_in ?_
      refine next_in ?_
      refine ret_in ?_
      have h := Option.some.inj h; subst h
      exact ret1_step (v := (.d (.b true))) (by kernel_rfl) (by kernel_rfl) (by kernel_rfl)
  · intro F_wEqExprS F_wEqSortKeyS F_wEqSourceS F_wEqItemS OK_wEqExprS OK_wEqSortKeyS OK_wEqSourceS OK_wEqItemS p0 p1 r h
    refine acalls_of_fn trwEqQuery (Nat.le_of_ble_eq_true rfl) (by simp) ?_
    show avc Try.prog acwEqQuery (qwEqQuery _) ⟨[(0, (vGQuery p0)), (1, (vGQuery p1))], []⟩
    delta acwEqQuery
    refine seq_in ?_
    refine ops_in ?_
    refine sts_ok 3 (s' := ⟨[(4, (.d (.b false))), (3, (.ptr 3 0)), (2, (.ptr 2 0)), (0, (vGQuery p0)), (1, (vGQuery p1))], [(3, [(.d (.b p1.distinct)), (.d (.sl 13 (p1.items.map cGItem))), (.d (.sl 3 (p1.from_.map cGSource))), (.d (.sl 10 (p1.where_.map cGExpr))), (.d (.sl 11 (p1.order.map cGSortKey))), (.d (.i .i64 p1.limit))]), (2, [(.d (.b p0.distinct)), (.d (.sl 13 (p0.items.map cGItem))), (.d (.sl 3 (p0.from_.map cGSource))), (.d (.sl 10 (p0.where_.map cGExpr))), (.d (.sl 11 (p0.order.map cGSortKey))), (.d (.i .i64 p0.limit))])]⟩) (by kernel_rfl) ?_
    refine nil_in ?_
    refine next_in ?_
    refine seq_in ?_
    refine seq_in ?_
    refine ops_in ?_
    refine sts_ok 5 (s' := ⟨[(9, (.d (.b (!(p0.distinct == p1.distinct))))), (8, (.d (.b p1.distinct))), (7, (.ptr 3 0)), (6, (.d (.b p0.distinct))), (5, (.ptr 2 0)), (4, (.d (.b false))), (3, (.ptr 3 0)), (2, (.ptr 2 0)), (0, (vGQuery p0)), (1, (vGQuery p1))], [(3, [(.d (.b p1.distinct)), (.d (.sl 13 (p1.items.map cGItem))), (.d (.sl 3 (p1.from_.map cGSource))), (.d (.sl 10 (p1.where_.map cGExpr))), (.d (.sl 11 (p1.order.map cGSortKey))), (.d (.i .i64 p1.limit))]), (2, [(.d (.b p0.distinct)), (.d (.sl 13 (p0.items.map cGItem))), (.d (.sl 3 (p0.from_.map cGSource))), (.d (.sl 10 (p0.where_.map cGExpr))), (.d (.sl 11 (p0.order.map cGSortKey))), (.d (.i .i64 p0.limit))])]⟩) (by kernel_rfl) ?_
    refine nil_in ?_
    refine next_in ?_
    refine cond_step h (by kernel_rfl) ?_ ?_
    · clear h; intro h
      refine seq_in ?_
      refine ops_in ?_
      refine sts_ok 1 (s' := ⟨[(4, (.d (.b false))), (9, (.d (.b (!(p0.distinct == p1.distinct))))), (8, (.d (.b p1.distinct))), (7, (.ptr 3 0)), (6, (.d (.b p0.distinct))), (5, (.ptr 2 0)), (4, (.d (.b false))), (3, (.ptr 3 0)), (2, (.ptr 2 0)), (0, (vGQuery p0)), (1, (vGQuery p1))], [(3, [(.d (.b p1.distinct)), (.d (.sl 13 (p1.items.map cGItem))), (.d (.sl 3 (p1.from_.map cGSource))), (.d (.sl 10 (p1.where_.map cGExpr))), (.d (.sl 11 (p1.order.map cGSortKey))), (.d (.i .i64 p1.limit))]), (2, [(.d (.b p0.distinct)), (.d (.sl 13 (p0.items.map cGItem))), (.d (.sl 3 (p0.from_.map cGSource))), (.d (.sl 10 (p0.where_.map cGExpr))), (.d (.sl 11 (p0.order.map cGSortKey))), (.d (.i .i64 p0.limit))])]⟩) (by kernel_rfl) ?_
      refine nil_in ?_
      refine next_in ?_
      refine ret_in ?_
      refine thenK_ret ?_
      have h := Option.some.inj h; subst h
      exact ret1_step (v := (.d (.b false))) (by kernel_rfl) (by kernel_rfl) (by kernel_rfl)
    · clear h; intro h
      refine skip_in ?_
      refine next_in ?_
      refine seq_in ?_
      refine seq_in ?_
      refine ops_in ?_
      refine sts_ok 4 (s' := ⟨[(13, (.d (.sl 13 (p1.items.map cGItem)))), (12, (.ptr 3 1)), (11, (.d (.sl 13 (p0.items.map cGItem)))), (10, (.ptr 2 1)), (9, (.d (.b (!(p0.distinct == p1.distinct))))), (8, (.d (.b p1.distinct))), (7, (.ptr 3 0)), (6, (.d (.b p0.distinct))), (5, (.ptr 2 0)), (4, (.d (.b false))), (3, (.ptr 3 0)), (2, (.ptr 2 0)), (0, (vGQuery p0)), (1, (vGQuery p1))], [(3, [(.d (.b p1.distinct)), (.d (.sl 13 (p1.items.map cGItem))), (.d (.sl 3 (p1.from_.map cGSource))), (.d (.sl 10 (p1.where_.map cGExpr))), (.d (.sl 11 (p1.order.map cGSortKey))), (.d (.i .i64 p1.limit))]), (2, [(.d (.b p0.distinct)), (.d (.sl 13 (p0.items.map cGItem))), (.d (.sl 3 (p0.from_.map cGSource))), (.d (.sl 10 (p0.where_.map cGExpr))), (.d (.sl 11 (p0.order.map cGSortKey))), (.d (.i .i64 p0.limit))])]⟩) (by kernel_rfl) ?_
      refine call_step (m := F_wEqItemS p0.items p1.items) (args := [(.d (.sl 13 (p0.items.map cGItem))), (.d (.sl 13 (p1.items.map cGItem)))]) (v' := (fun y => (.d (.b y)))) h (OK_wEqItemS p0.items p1.items) (by kernel_rfl) (by kernel_rfl) (fun _ => rfl) ?_
      clear h; intro y1 h
      refine sts_ok 1 (s' := ⟨[(15, (.d (.b (!y1)))), (14, (.d (.b y1))), (13, (.d (.sl 13 (p1.items.map cGItem)))), (12, (.ptr 3 1)), (11, (.d (.sl 13 (p0.items.map cGItem)))), (10, (.ptr 2 1)), (9, (.d (.b (!(p0.distinct == p1.distinct))))), (8, (.d (.b p1.distinct))), (7, (.ptr 3 0)), (6, (.d (.b p0.distinct))), (5, (.ptr 2 0)), (4, (.d (.b false))), (3, (.ptr 3 0)), (2, (.ptr 2 0)), (0, (vGQuery p0)), (1, (vGQuery p1))], [(3, [(.d (.b p1.distinct)), (.d (.sl 13 (p1.items.map cGItem))), (.d (.sl 3 (p1.from_.map cGSource))), (.d (.sl 10 (p1.where_.map cGExpr))), (.d (.sl 11 (p1.order.map cGSortKey))), (.d (.i .i64 p1.limit))]), (2, [(.d (.b p0.distinct)), (.d (.sl 13 (p0.items.map cGItem))), (.d (.sl 3 (p0.from_.map cGSource))), (.d (.sl 10 (p0.where_.map cGExpr))), (.d (.sl 11 (p0.order.map cGSortKey))), (.d (.i .i64 p0.limit))])]⟩) (by kernel_rfl) ?_
      refine nil_in ?_
      refine next_in ?_
      refine cond_step h (by kernel_rfl) ?_ ?_
      · clear h; intro h
        refine seq_in ?_
        refine ops_in ?_
        refine sts_ok 1 (s' := ⟨[(4, (.d (.b false))), (15, (.d (.b (!y1)))), (14, (.d (.b y1))), (13, (.d (.sl 13 (p1.items.map cGItem)))), (12, (.ptr 3 1)), (11, (.d (.sl 13 (p0.items.map cGItem)))), (10, (.ptr 2 1)), (9, (.d (.b (!(p0.distinct == p1.distinct))))), (8, (.d (.b p1.distinct))), (7, (.ptr 3 0)), (6, (.d (.b p0.distinct))), (5, (.ptr 2 0)), (4, (.d (.b false))), (3, (.ptr 3 0)), (2, (.ptr 2 0)), (0, (vGQuery p0)), (1, (vGQuery p1))], [(3, [(.d (.b p1.distinct)), (.d (.sl 13 (p1.items.map cGItem))), (.d (.sl 3 (p1.from_.map cGSource))), (.d (.sl 10 (p1.where_.map cGExpr))), (.d (.sl 11 (p1.order.map cGSortKey))), (.d (.i .i64 p1.limit))]), (2, [(.d (.b p0.distinct)), (.d (.sl 13 (p0.items.map cGItem))), (.d (.sl 3 (p0.from_.map cGSource))), (.d (.sl 10 (p0.where_.map cGExpr))), (.d (.sl 11 (p0.order.map cGSortKey))), (.d (.i .i64 p0.limit))])]⟩) (by kernel_rfl) ?_
        refine nil_in ?_
        refine next_in ?_
        refine ret_in ?_
        refine thenK_ret ?_
        have h := Option.some.inj h; subst h
        exact ret1_step (v := (.d (.b false))) (by kernel_rfl) (by kernel_rfl) (by kernel_rfl)
      · clear h; intro h
        refine skip_in ?_
        refine next_in ?_
        refine seq_in ?_
        refine seq_in ?_
        refine ops_in ?_
        refine sts_ok 4 (s' := ⟨[(19, (.d (.sl 3 (p1.from_.map cGSource)))), (18, (.ptr 3 2)), (17, (.d (.sl 3 (p0.from_.map cGSource)))), (16, (.ptr 2 2)), (15, (.d (.b (!y1)))), (14, (.d (.b y1))), (13, (.d (.sl 13 (p1.items.map cGItem)))), (12, (.ptr 3 1)), (11, (.d (.sl 13 (p0.items.map cGItem)))), (10, (.ptr 2 1)), (9, (.d (.b (!(p0.distinct == p1.distinct))))), (8, (.d (.b p1.distinct))), (7, (.ptr 3 0)), (6, (.d (.b p0.distinct))), (5, (.ptr 2 0)), (4, (.d (.b false))), (3, (.ptr 3 0)), (2, (.ptr 2 0)), (0, (vGQuery p0)), (1, (vGQuery p1))], [(3, [(.d (.b p1.distinct)), (.d (.sl 13 (p1.items.map cGItem))), (.d (.sl 3 (p1.from_.map cGSource))), (.d (.sl 10 (p1.where_.map cGExpr))), (.d (.sl 11 (p1.order.map cGSortKey))), (.d (.i .i64 p1.limit))]), (2, [(.d (.b p0.distinct)), (.d (.sl 13 (p0.items.map cGItem))), (.d (.sl 3 (p0.from_.map cGSource))), (.d (.sl 10 (p0.where_.map cGExpr))), (.d (.sl 11 (p0.order.map cGSortKey))), (.d (.i .i64 p0.limit))])]⟩) (by kernel_rfl) ?_
        refine call_step (m := F_wEqSourceS p0.from_ p1.from_) (args := [(.d (.sl 3 (p0.from_.map cGSource))), (.d (.sl 3 (p1.from_.map cGSource)))]) (v' := (fun y => (.d (.b y)))) h (OK_wEqSourceS p0.from_ p1.from_) (by kernel_rfl) (by kernel_rfl) (fun _ => rfl) ?_
        clear h; intro y2 h
        refine sts_ok 1 (s' := ⟨[(21, (.d (.b (!y2)))), (20, (.d (.b y2))), (19, (.d (.sl 3 (p1.from_.map cGSource)))), (18, (.ptr 3 2)), (17, (.d (.sl 3 (p0.from_.map cGSource)))), (16, (.ptr 2 2)), (15, (.d (.b (!y1)))), (14, (.d (.b y1))), (13, (.d (.sl 13 (p1.items.map cGItem)))), (12, (.ptr 3 1)), (11, (.d (.sl 13 (p0.items.map cGItem)))), (10, (.ptr 2 1)), (9, (.d (.b (!(p0.distinct == p1.distinct))))), (8, (.d (.b p1.distinct))), (7, (.ptr 3 0)), (6, (.d (.b p0.distinct))), (5, (.ptr 2 0)), (4, (.d (.b false))), (3, (.ptr 3 0)), (2, (.ptr 2 0)), (0, (vGQuery p0)), (1, (vGQuery p1))], [(3, [(.d (.b p1.distinct)), (.d (.sl 13 (p1.items.map cGItem))), (.d (.sl 3 (p1.from_.map cGSource))), (.d (.sl 10 (p1.where_.map cGExpr))), (.d (.sl 11 (p1.order.map cGSortKey))), (.d (.i .i64 p1.limit))]), (2, [(.d (.b p0.distinct)), (.d (.sl 13 (p0.items.map cGItem))), (.d (.sl 3 (p0.from_.map cGSource))), (.d (.sl 10 (p0.where_.map cGExpr))), (.d (.sl 11 (p0.order.map cGSortKey))), (.d (.i .i64 p0.limit))])]⟩) (by kernel_rfl) ?_
        refine nil_in ?_
        refine next_in ?_
        refine cond_step h (by kernel_rfl) ?_ ?_
        · clear h; intro h
          refine seq_in ?_
          refine ops_in ?_
          refine sts_ok 1 (s' := ⟨[(4, (.d (.b false))), (21, (.d (.b (!y2)))), (20, (.d (.b y2))), (19, (.d (.sl 3 (p1.from_.map cGSource)))), (18, (.ptr 3 2)), (17, (.d (.sl 3 (p0.from_.map cGSource)))), (16, (.ptr 2 2)), (15, (.d (.b (!y1)))), (14, (.d (.b y1))), (13, (.d (.sl 13 (p1.items.map cGItem)))), (12, (.ptr 3 1)), (11, (.d (.sl 13 (p0.items.map cGItem)))), (10, (.ptr 2 1)), (9, (.d (.b (!(p0.distinct == p1.distinct))))), (8, (.d (.b p1.distinct))), (7, (.ptr 3 0)), (6, (.d (.b p0.distinct))), (5, (.ptr 2 0)), (4, (.d (.b false))), (3, (.ptr 3 0)), (2, (.ptr 2 0)), (0, (vGQuery p0)), (1, (vGQuery p1))], [(3, [(.d (.b p1.distinct)), (.d (.sl 13 (p1.items.map cGItem))), (.d (.sl 3 (p1.from_.map cGSource))), (.d (.sl 10 (p1.where_.map cGExpr))), (.d (.sl 11 (p1.order.map cGSortKey))), (.d (.i .i64 p1.limit))]), (2, [(.d (.b p0.distinct)), (.d (.sl 13 (p0.items.map cGItem))), (.d (.sl 3 (p0.from_.map cGSource))), (.d (.sl 10 (p0.where_.map cGExpr))), (.d (.sl 11 (p0.order.map cGSortKey))), (.d (.i .i64 p0.limit))])]⟩) (by kernel_rfl) ?_
          refine nil_in ?_
          refine next_in ?_
          refine ret_in ?_
          refine thenK_ret ?_
          have h := Option.some.inj h; subst h
          exact ret1_step (v := (.d (.b false))) (by kernel_rfl) (by kernel_rfl) (by kernel_rfl)
        · clear h; intro h
          refine skip_in ?_
          refine next_in ?_
          refine seq_in ?_
          refine seq_in ?_
          refine ops_in ?_
          refine sts_ok 4 (s' := ⟨[(25, (.d (.sl 10 (p1.where_.map cGExpr)))), (24, (.ptr 3 3)), (23, (.d (.sl 10 (p0.where_.map cGExpr)))), (22, (.ptr 2 3)), (21, (.d (.b (!y2)))), (20, (.d (.b y2))), (19, (.d (.sl 3 (p1.from_.map cGSource)))), (18, (.ptr 3 2)), (17, (.d (.sl 3 (p0.from_.map cGSource)))), (16, (.ptr 2 2)), (15, (.d (.b (!y1)))), (14, (.d (.b y1))), (13, (.d (.sl 13 (p1.items.map cGItem)))), (12, (.ptr 3 1)), (11, (.d (.sl 13 (p0.items.map cGItem)))), (10, (.ptr 2 1)), (9, (.d (.b (!(p0.distinct == p1.distinct))))), (8, (.d (.b p1.distinct))), (7, (.ptr 3 0)), (6, (.d (.b p0.distinct))), (5, (.ptr 2 0)), (4, (.d (.b false))), (3, (.ptr 3 0)), (2, (.ptr 2 0)), (0, (vGQuery p0)), (1, (vGQuery p1))], [(3, [(.d (.b p1.distinct)), (.d (.sl 13 (p1.items.map cGItem))), (.d (.sl 3 (p1.from_.map cGSource))), (.d (.sl 10 (p1.where_.map cGExpr))), (.d (.sl 11 (p1.order.map cGSortKey))), (.d (.i .i64 p1.limit))]), (2, [(.d (.b p0.distinct)), (.d (.sl 13 (p0.items.map cGItem))), (.d (.sl 3 (p0.from_.map cGSource))), (.d (.sl 10 (p0.where_.map cGExpr))), (.d (.sl 11 (p0.order.map cGSortKey))), (.d (.i .i64 p0.limit))])]⟩) (by kernel_rfl) ?_
          refine call_step (m := F_wEqExprS p0.where_ p1.where_) (args := [(.d (.sl 10 (p0.where_.map cGExpr))), (.d (.sl 10 (p1.where_.map cGExpr)))]) (v' := (fun y => (.d (.b y)))) h (OK_wEqExprS p0.where_ p1.where_) (by kernel_rfl) (by kernel_rfl) (fun _ => rfl) ?_
          clear h; intro y3 h
          refine sts_ok 1 (s' := ⟨[(27, (.d (.b (!y3)))), (26, (.d (.b y3))), (25, (.d (.sl 10 (p1.where_.map cGExpr)))), (24, (.ptr 3 3)), (23, (.d (.sl 10 (p0.where_.map cGExpr)))), (22, (.ptr 2 3)), (21, (.d (.b (!y2)))), (20, (.d (.b y2))), (19, (.d (.sl 3 (p1.from_.map cGSource)))), (18, (.ptr 3 2)), (17, (.d (.sl 3 (p0.from_.map cGSource)))), (16, (.ptr 2 2)), (15, (.d (.b (!y1)))), (14, (.d (.b y1))), (13, (.d (.sl 13 (p1.items.map cGItem)))), (12, (.ptr 3 1)), (11, (.d (.sl 13 (p0.items.map cGItem)))), (10, (.ptr 2 1)), (9, (.d (.b (!(p0.distinct == p1.distinct))))), (8, (.d (.b p1.distinct))), (7, (.ptr 3 0)), (6, (.d (.b p0.distinct))), (5, (.ptr 2 0)), (4, (.d (.b false))), (3, (.ptr 3 0)), (2, (.ptr 2 0)), (0, (vGQuery p0)), (1, (vGQuery p1))], [(3, [(.d (.b p1.distinct)), (.d (.sl 13 (p1.items.map cGItem))), (.d (.sl 3 (p1.from_.map cGSource))), (.d (.sl 10 (p1.where_.map cGExpr))), (.d (.sl 11 (p1.order.map cGSortKey))), (.d (.i .i64 p1.limit))]), (2, [(.d (.b p0.distinct)), (.d (.sl 13 (p0.items.map cGItem))), (.d (.sl 3 (p0.from_.map cGSource))), (.d (.sl 10 (p0.where_.map cGExpr))), (.d (.sl 11 (p0.order.map cGSortKey))), (.d (.i .i64 p0.limit))])]⟩) (by kernel_rfl) ?_
          refine nil_in ?_
          refine next_in ?_
          refine cond_step h (by kernel_rfl) ?_ ?_
          · clear h; intro h
            refine seq_in ?_
            refine ops_in ?_
            refine sts_ok 1 (s' := ⟨[(4, (.d (.b false))), (27, (.d (.b (!y3)))), (26, (.d (.b y3))), (25, (.d (.sl 10 (p1.where_.map cGExpr)))), (24, (.ptr 3 3)), (23, (.d (.sl 10 (p0.where_.map cGExpr)))), (22, (.ptr 2 3)), (21, (.d (.b (!y2)))), (20, (.d (.b y2))), (19, (.d (.sl 3 (p1.from_.map cGSource)))), (18, (.ptr 3 2)), (17, (.d (.sl 3 (p0.from_.map cGSource)))), (16, (.ptr 2 2)), (15, (.d (.b (!y1)))), (14, (.d (.b y1))), (13, (.d (.sl 13 (p1.items.map cGItem)))), (12, (.ptr 3 1)), (11, (.d (.sl 13 (p0.items.map cGItem)))), (10, (.ptr 2 1)), (9, (.d (.b (!(p0.distinct == p1.distinct))))), (8, (.d (.b p1.distinct))), (7, (.ptr 3 0)), (6, (.d (.b p0.distinct))), (5, (.ptr 2 0)), (4, (.d (.b false))), (3, (.ptr 3 0)), (2, (.ptr 2 0)), (0, (vGQuery p0)), (1, (vGQuery p1))], [(3, [(.d (.b p1.distinct)), (.d (.sl 13 (p1.items.map cGItem))), (.d (.sl 3 (p1.from_.map cGSource))), (.d (.sl 10 (p1.where_.map cGExpr))), (.d (.sl 11 (p1.order.map cGSortKey))), (.d (.i .i64 p1.limit))]), (2, [(.d (.b p0.distinct)), (.d (.sl 13 (p0.items.map cGItem))), (.d (.sl 3 (p0.from_.map cGSource))), (.d (.sl 10 (p0.where_.map cGExpr))), (.d (.sl 11 (p0.order.map cGSortKey))), (.d (.i .i64 p0.limit))])]⟩) (by kernel_rfl) ?_
            refine nil_in ?_
            refine next_in ?_
            refine ret_in ?_
            refine thenK_ret ?_
            have h := Option.some.inj h; subst h
            exact ret1_step (v := (.d (.b false))) (by kernel_rfl) (by kernel_rfl) (by kernel_rfl)
          · clear h; intro h
            refine skip_in ?_
            refine next_in ?_
            refine seq_in ?_
            refine seq_in ?_
            refine ops_in ?_
            refine sts_ok 4 (s' := ⟨[(31, (.d (.sl 11 (p1.order.map cGSortKey)))), (30, (.ptr 3 4)), (29, (.d (.sl 11 (p0.order.map cGSortKey)))), (28, (.ptr 2 4)), (27, (.d (.b (!y3)))), (26, (.d (.b y3))), (25, (.d (.sl 10 (p1.where_.map cGExpr)))), (24, (.ptr 3 3)), (23, (.d (.sl 10 (p0.where_.map cGExpr)))), (22, (.ptr 2 3)), (21, (.d (.b (!y2)))), (20, (.d (.b y2))), (19, (.d (.sl 3 (p1.from_.map cGSource)))), (18, (.ptr 3 2)), (17, (.d (.sl 3 (p0.from_.map cGSource)))), (16, (.ptr 2 2)), (15, (.d (.b (!y1)))), (14, (.d (.b y1))), (13, (.d (.sl 13 (p1.items.map cGItem)))), (12, (.ptr 3 1)), (11, (.d (.sl 13 (p0.items.map cGItem)))), (10, (.ptr 2 1)), (9, (.d (.b (!(p0.distinct == p1.distinct))))), (8, (.d (.b p1.distinct))), (7, (.ptr 3 0)), (6, (.d (.b p0.distinct))), (5, (.ptr 2 0)), (4, (.d (.b false))), (3, (.ptr 3 0)), (2, (.ptr 2 0)), (0, (vGQuery p0)), (1, (vGQuery p1))], [(3, [(.d (.b p1.distinct)), (.d (.sl 13 (p1.items.map cGItem))), (.d (.sl 3 (p1.from_.map cGSource))), (.d (.sl 10 (p1.where_.map cGExpr))), (.d (.sl 11 (p1.order.map cGSortKey))), (.d (.i .i64 p1.limit))]), (2, [(.d (.b p0.distinct)), (.d (.sl 13 (p0.items.map cGItem))), (.d (.sl 3 (p0.from_.map cGSource))), (.d (.sl 10 (p0.where_.map cGExpr))), (.d (.sl 11 (p0.order.map cGSortKey))), (.d (.i .i64 p0.limit))])]⟩) (by kernel_rfl) ?_
            refine call_step (m := F_wEqSortKeyS p0.order p1.order) (args := [(.d (.sl 11 (p0.order.map cGSortKey))), (.d (.sl 11 (p1.order.map cGSortKey)))]) (v' := (fun y => (.d (.b y)))) h (OK_wEqSortKeyS p0.order p1.order) (by kernel_rfl) (by kernel_rfl) (fun _ => rfl) ?_
            clear h; intro y4 h
            refine sts_ok 1 (s' := ⟨[(33, (.d (.b (!y4)))), (32, (.d (.b y4))), (31, (.d (.sl 11 (p1.order.map cGSortKey)))), (30, (.ptr 3 4)), (29, (.d (.sl 11 (p0.order.map cGSortKey)))), (28, (.ptr 2 4)), (27, (.d (.b (!y3)))), (26, (.d (.b y3))), (25, (.d (.sl 10 (p1.where_.map cGExpr)))), (24, (.ptr 3 3)), (23, (.d (.sl 10 (p0.where_.map cGExpr)))), (22, (.ptr 2 3)), (21, (.d (.b (!y2)))), (20, (.d (.b y2))), (19, (.d (.sl 3 (p1.from_.map cGSource)))), (18, (.ptr 3 2)), (17, (.d (.sl 3 (p0.from_.map cGSource)))), (16, (.ptr 2 2)), (15, (.d (.b (!y1)))), (14, (.d (.b y1))), (13, (.d (.sl 13 (p1.items.map cGItem)))), (12, (.ptr 3 1)), (11, (.d (.sl 13 (p0.items.map cGItem)))), (10, (.ptr 2 1)), (9, (.d (.b (!(p0.distinct == p1.distinct))))), (8, (.d (.b p1.distinct))), (7, (.ptr 3 0)), (6, (.d (.b p0.distinct))), (5, (.ptr 2 0)), (4, (.d (.b false))), (3, (.ptr 3 0)), (2, (.ptr 2 0)), (0, (vGQuery p0)), (1, (vGQuery p1))], [(3, [(.d (.b p1.distinct)), (.d (.sl 13 (p1.items.map cGItem))), (.d (.sl 3 (p1.from_.map cGSource))), (.d (.sl 10 (p1.where_.map cGExpr))), (.d (.sl 11 (p1.order.map cGSortKey))), (.d (.i .i64 p1.limit))]), (2, [(.d (.b p0.distinct)), (.d (.sl 13 (p0.items.map cGItem))), (.d (.sl 3 (p0.from_.map cGSource))), (.d (.sl 10 (p0.where_.map cGExpr))), (.d (.sl 11 (p0.order.map cGSortKey))), (.d (.i .i64 p0.limit))])]⟩) (by kernel_rfl) ?_
            refine nil_in ?_
            refine next_in ?_
            refine cond_step h (by kernel_rfl) ?_ ?_
            · clear h; intro h
              refine seq_in ?_
              refine ops_in ?_
              refine sts_ok 1 (s' := ⟨[(4, (.d (.b false))), (33, (.d (.b (!y4)))), (32, (.d (.b y4))), (31, (.d (.sl 11 (p1.order.map cGSortKey)))), (30, (.ptr 3 4)), (29, (.d (.sl 11 (p0.order.map cGSortKey)))), (28, (.ptr 2 4)), (27, (.d (.b (!y3)))), (26, (.d (.b y3))), (25, (.d (.sl 10 (p1.where_.map cGExpr)))), (24, (.ptr 3 3)), (23, (.d (.sl 10 (p0.where_.map cGExpr)))), (22, (.ptr 2 3)), (21, (.d (.b (!y2)))), (20, (.d (.b y2))), (19, (.d (.sl 3 (p1.from_.map cGSource)))), (18, (.ptr 3 2)), (17, (.d (.sl 3 (p0.from_.map cGSource)))), (16, (.ptr 2 2)), (15, (.d (.b (!y1)))), (14, (.d (.b y1))), (13, (.d (.sl 13 (p1.items.map cGItem)))), (12, (.ptr 3 1)), (11, (.d (.sl 13 (p0.items.map cGItem)))), (10, (.ptr 2 1)), (9, (.d (.b (!(p0.distinct == p1.distinct))))), (8, (.d (.b p1.distinct))), (7, (.ptr 3 0)), (6, (.d (.b p0.distinct))), (5, (.ptr 2 0)), (4, (.d (.b false))), (3, (.ptr 3 0)), (2, (.ptr 2 0)), (0, (vGQuery p0)), (1, (vGQuery p1))], [(3, [(.d (.b p1.distinct)), (.d (.sl 13 (p1.items.map cGItem))), (.d (.sl 3 (p1.from_.map cGSource))), (.d (.sl 10 (p1.where_.map cGExpr))), (.d (.sl 11 (p1.order.map cGSortKey))), (.d (.i .i64 p1.limit))]), (2, [(.d (.b p0.distinct)), (.d (.sl 13 (p0.items.map cGItem))), (.d (.sl 3 (p0.from_.map cGSource))), (.d (.sl 10 (p0.where_.map cGExpr))), (.d (.sl 11 (p0.order.map cGSortKey))), (.d (.i .i64 p0.limit))])]⟩) (by kernel_rfl) ?_
              refine nil_in ?_
              refine next_in ?_
              refine ret_in ?_
              refine thenK_ret ?_
              have h := Option.some.inj h; subst h
              exact ret1_step (v := (.d (.b false))) (by kernel_rfl) (by kernel_rfl) (by kernel_rfl)
            · clear h; intro h
              refine skip_in ?_
              refine next_in ?_
              refine seq_in ?_
              refine seq_in ?_
              refine ops_in ?_
              refine sts_ok 5 (s' := ⟨[(38, (.d (.b (!decide (p0.limit = p1.limit))))), (37, (.d (.i .i64 p1.limit))), (36, (.ptr 3 5)), (35, (.d (.i .i64 p0.limit))), (34, (.ptr 2 5)), (33, (.d (.b (!y4)))), (32, (.d (.b y4))), (31, (.d (.sl 11 (p1.order.map cGSortKey)))), (30, (.ptr 3 4)), (29, (.d (.sl 11 (p0.order.map cGSortKey)))), (28, (.ptr 2 4)), (27, (.d (.b (!y3)))), (26, (.d (.b y3))), (25, (.d (.sl 10 (p1.where_.map cGExpr)))), (24, (.ptr 3 3)), (23, (.d (.sl 10 (p0.where_.map cGExpr)))), (22, (.ptr 2 3)), (21, (.d (.b (!y2)))), (20, (.d (.b y2))), (19, (.d (.sl 3 (p1.from_.map cGSource)))), (18, (.ptr 3 2)), (17, (.d (.sl 3 (p0.from_.map cGSource)))), (16, (.ptr 2 2)), (15, (.d (.b (!y1)))), (14, (.d (.b y1))), (13, (.d (.sl 13 (p1.items.map cGItem)))), (12, (.ptr 3 1)), (11, (.d (.sl 13 (p0.items.map cGItem)))), (10, (.ptr 2 1)), (9, (.d (.b (!(p0.distinct == p1.distinct))))), (8, (.d (.b p1.distinct))), (7, (.ptr 3 0)), (6, (.d (.b p0.distinct))), (5, (.ptr 2 0)), (4, (.d (.b false))), (3, (.ptr 3 0)), (2, (.ptr 2 0)), (0, (vGQuery p0)), (1, (vGQuery p1))], [(3, [(.d (.b p1.distinct)), (.d (.sl 13 (p1.items.map cGItem))), (.d (.sl 3 (p1.from_.map cGSource))), (.d (.sl 10 (p1.where_.map cGExpr))), (.d (.sl 11 (p1.order.map cGSortKey))), (.d (.i .i64 p1.limit))]), (2, [(.d (.b p0.distinct)), (.d (.sl 13 (p0.items.map cGItem))), (.d (.sl 3 (p0.from_.map cGSource))), (.d (.sl 10 (p0.where_.map cGExpr))), (.d (.sl 11 (p0.order.map cGSortKey))), (.d (.i .i64 p0.limit))])]⟩) (by kernel_rfl) ?_
              refine nil_in ?_
              refine next_in ?_
              refine cond_step h (by kernel_rfl) ?_ ?_
              · clear h; intro h
                refine seq_in ?_
                refine ops_in ?_
                refine sts_ok 1 (s' := ⟨[(4, (.d (.b false))), (38, (.d (.b (!decide (p0.limit = p1.limit))))), (37, (.d (.i .i64 p1.limit))), (36, (.ptr 3 5)), (35, (.d (.i .i64 p0.limit))), (34, (.ptr 2 5)), (33, (.d (.b (!y4)))), (32, (.d (.b y4))), (31, (.d (.sl 11 (p1.order.map cGSortKey)))), (30, (.ptr 3 4)), (29, (.d (.sl 11 (p0.order.map cGSortKey)))), (28, (.ptr 2 4)), (27, (.d (.b (!y3)))), (26, (.d (.b y3))), (25, (.d (.sl 10 (p1.where_.map cGExpr)))), (24, (.ptr 3 3)), (23, (.d (.sl 10 (p0.where_.map cGExpr)))), (22, (.ptr 2 3)), (21, (.d (.b (!y2)))), (20, (.d (.b y2))), (19, (.d (.sl 3 (p1.from_.map cGSource)))), (18, (.ptr 3 2)), (17, (.d (.sl 3 (p0.from_.map cGSource)))), (16, (.ptr 2 2)), (15, (.d (.b (!y1)))), (14, (.d (.b y1))), (13, (.d (.sl 13 (p1.items.map cGItem)))), (12, (.ptr 3 1)), (11, (.d (.sl 13 (p0.items.map cGItem)))), (10, (.ptr 2 1)), (9, (.d (.b (!(p0.distinct == p1.distinct))))), (8, (.d (.b p1.distinct))), (7, (.ptr 3 0)), (6, (.d (.b p0.distinct))), (5, (.ptr 2 0)), (4, (.d (.b false))), (3, (.ptr 3 0)), (2, (.ptr 2 0)), (0, (vGQuery p0)), (1, (vGQuery p1))], [(3, [(.d (.b p1.distinct)), (.d (.sl 13 (p1.items.map cGItem))), (.d (.sl 3 (p1.from_.map cGSource))), (.d (.sl 10 (p1.where_.map cGExpr))), (.d (.sl 11 (p1.order.map cGSortKey))), (.d (.i .i64 p1.limit))]), (2, [(.d (.b p0.distinct)), (.d (.sl 13 (p0.items.map cGItem))), (.d (.sl 3 (p0.from_.map cGSource))), (.d (.sl 10 (p0.where_.map cGExpr))), (.d (.sl 11 (p0.order.map cGSortKey))), (.d (.i .i64 p0.limit))])]⟩) (by kernel_rfl) ?_
                refine nil_in ?_
                refine next_in ?_
                refine ret_in ?_
                refine thenK_ret ?_
                have h := Option.some.inj h; subst h
                exact ret1_step (v := (.d (.b false))) (by kernel_rfl) (by kernel_rfl) (by kernel_rfl)
              · clear h; intro h
                refine skip_in ?_
                refine next_in ?_
                refine seq_in ?_
                refine ops_in ?_
                refine sts_ok 1 (s' := ⟨[(4, (.d (.b true))), (38, (.d (.b (!decide (p0.limit = p1.limit))))), (37, (.d (.i .i64 p1.limit))), (36, (.ptr 3 5)), (35, (.d (.i .i64 p0.limit))), (34, (.ptr 2 5)), (33, (.d (.b (!y4)))), (32, (.d (.b y4))), (31, (.d (.sl 11 (p1.order.map cGSortKey)))), (30, (.ptr 3 4)), (29, (.d (.sl 11 (p0.order.map cGSortKey)))), (28, (.ptr 2 4)), (27, (.d (.b (!y3)))), (26, (.d (.b y3))), (25, (.d (.sl 10 (p1.where_.map cGExpr)))), (24, (.ptr 3 3)), (23, (.d (.sl 10 (p0.where_.map cGExpr)))), (22, (.ptr 2 3)), (21, (.d (.b (!y2)))), (20, (.d (.b y2))), (19, (.d (.sl 3 (p1.from_.map cGSource)))), (18, (.ptr 3 2)), (17, (.d (.sl 3 (p0.from_.map cGSource)))), (16, (.ptr 2 2)), (15, (.d (.b (!y1)))), (14, (.d (.b y1))), (13, (.d (.sl 13 (p1.items.map cGItem)))), (12, (.ptr 3 1)), (11, (.d (.sl 13 (p0.items.map cGItem)))), (10, (.ptr 2 1)), (9, (.d (.b (!(p0.distinct == p1.distinct))))), (8, (.d (.b p1.distinct))), (7, (.ptr 3 0)), (6, (.d (.b p0.distinct))), (5, (.ptr 2 0)), (4, (.d (.b false))), (3, (.ptr 3 0)), (2, (.ptr 2 0)), (0, (vGQuery p0)), (1, (vGQuery p1))], [(3, [(.d (.b p1.distinct)), (.d (.sl 13 (p1.items.map cGItem))), (.d (.sl 3 (p1.from_.map cGSource))), (.d (.sl 10 (p1.where_.map cGExpr))), (.d (.sl 11 (p1.order.map cGSortKey))), (.d (.i .i64 p1.limit))]), (2, [(.d (.b p0.distinct)), (.d (.sl 13 (p0.items.map cGItem))), (.d (.sl 3 (p0.from_.map cGSource))), (.d (.sl 10 (p0.where_.map cGExpr))), (.d (.sl 11 (p0.order.map cGSortKey))), (.d (.i .i64 p0.limit))])]⟩) (by kernel_rfl) ?_
                refine nil_in ?_
                refine next_in ?_
                refine ret_in ?_
                have h := Option.some.inj h; subst h
                exact ret1_step (v := (.d (.b true))) (by kernel_rfl) (by kernel_rfl) (by kernel_rfl)
  · intro F_wEqSortKeyS_L0 OK_wEqSortKeyS_L0 p0 p1 r h
    refine acalls_of_fn trwEqSortKeyS (Nat.le_of_ble_eq_true rfl) (by simp) ?_
    show avc Try.prog acwEqSortKeyS (qwEqSortKeyS _) ⟨[(0, (.d (.sl 11 (p0.map cGSortKey)))), (1, (.d (.sl 11 (p1.map cGSortKey))))], []⟩
    delta acwEqSortKeyS
    refine seq_in ?_
    refine ops_in ?_
    refine sts_ok 1 (s' := ⟨[(4, (.d (.b false))), (0, (.d (.sl 11 (p0.map cGSortKey)))), (1, (.d (.sl 11 (p1.map cGSortKey))))], []⟩) (by kernel_rfl) ?_
    refine nil_in ?_
    refine next_in ?_
    refine seq_in ?_
    refine seq_in ?_
    refine ops_in ?_
    refine sts_ok 1 (s' := ⟨[(6, (.d (.sl 11 (p0.map cGSortKey)))), (4, (.d (.b false))), (0, (.d (.sl 11 (p0.map cGSortKey)))), (1, (.d (.sl 11 (p1.map cGSortKey))))], []⟩) (by kernel_rfl) ?_
    refine p_step (v' := (.d (.i .i64 (p0.length : Int)))) rfl rfl (vop_len (sz := 11) (l := p0) (f := cGSortKey) (by kernel_rfl) (by kernel_rfl)) ?_
    refine sts_ok 1 (s' := ⟨[(8, (.d (.sl 11 (p1.map cGSortKey)))), (7, (.d (.i .i64 (p0.length : Int)))), (6, (.d (.sl 11 (p0.map cGSortKey)))), (4, (.d (.b false))), (0, (.d (.sl 11 (p0.map cGSortKey)))), (1, (.d (.sl 11 (p1.map cGSortKey))))], []⟩) (by kernel_rfl) ?_
    refine p_step (v' := (.d (.i .i64 (p1.length : Int)))) rfl rfl (vop_len (sz := 11) (l := p1) (f := cGSortKey) (by kernel_rfl) (by kernel_rfl)) ?_
    refine sts_ok 1 (s' := ⟨[(10, (.d (.b (!decide ((p0.length : Int) = (p1.length : Int)))))), (9, (.d (.i .i64 (p1.length : Int)))), (8, (.d (.sl 11 (p1.map cGSortKey)))), (7, (.d (.i .i64 (p0.length : Int)))), (6, (.d (.sl 11 (p0.map cGSortKey)))), (4, (.d (.b false))), (0, (.d (.sl 11 (p0.map cGSortKey)))), (1, (.d (.sl 11 (p1.map cGSortKey))))], []⟩) (by kernel_rfl) ?_
    refine nil_in ?_
    refine next_in ?_
    refine cond_step h (by kernel_rfl) ?_ ?_
    · clear h; intro h
      refine seq_in ?_
      refine ops_in ?_
      refine sts_ok 1 (s' := ⟨[(4, (.d (.b false))), (10, (.d (.b (!decide ((p0.length : Int) = (p1.length : Int)))))), (9, (.d (.i .i64 (p1.length : Int)))), (8, (.d (.sl 11 (p1.map cGSortKey)))), (7, (.d (.i .i64 (p0.length : Int)))), (6, (.d (.sl 11 (p0.map cGSortKey)))), (4, (.d (.b false))), (0, (.d (.sl 11 (p0.map cGSortKey)))), (1, (.d (.sl 11 (p1.map cGSortKey))))], []⟩) (by kernel_rfl) ?_
      refine nil_in ?_
      refine next_in ?_
      refine ret_in ?_
      refine thenK_ret ?_
      have h := Option.some.inj h; subst h
      exact ret1_step (v := (.d (.b false))) (by kernel_rfl) (by kernel_rfl) (by kernel_rfl)
    · clear h; intro h
      refine skip_in ?_
      refine next_in ?_
      refine seq_in ?_
      refine seq_in ?_
      refine ops_in ?_
      refine sts_ok 1 (s' := ⟨[(5, (.d (.i .i64 0))), (10, (.d (.b (!decide ((p0.length : Int) = (p1.length : Int)))))), (9, (.d (.i .i64 (p1.length : Int)))), (8, (.d (.sl 11 (p1.map cGSortKey)))), (7, (.d (.i .i64 (p0.length : Int)))), (6, (.d (.sl 11 (p0.map cGSortKey)))), (4, (.d (.b false))), (0, (.d (.sl 11 (p0.map cGSortKey)))), (1, (.d (.sl 11 (p1.map cGSortKey))))], []⟩) (by kernel_rfl) ?_
      refine nil_in ?_
      refine next_in ?_
      refine block_in ?_
      exact loop_go (s' := stwEqSortKeyS_L0 p0 p1 0) (wk_ren [] (by kernel_rfl) (er_cons (vr_same (by kernel_rfl) (by kernel_rfl)) (er_cons (vr_same (by kernel_rfl) (by kernel_rfl)) (er_cons (vr_same (by kernel_rfl) (by kernel_rfl)) (er_nil)))) (br_nil)) (OK_wEqSortKeyS_L0 p0 p1 0 _ h)
  · intro F_wEqSortKeyS_L0 F_wEqSortKey OK_wEqSortKeyS_L0 OK_wEqSortKey p0 p1 x5 r h
    delta acwEqSortKeyS_L0
    refine loop_unroll ?_
    refine seq_in ?_
    refine seq_in ?_
    refine ops_in ?_
    refine sts_ok 2 (s' := ⟨(12, (.d (.sl 11 (p0.map cGSortKey)))) :: (11, (.d (.i .i64 x5))) :: (stwEqSortKeyS_L0 p0 p1 x5).env, (stwEqSortKeyS_L0 p0 p1 x5).bx⟩) (by kernel_rfl) ?_
    refine p_step (v' := (.d (.i .i64 (p0.length : Int)))) rfl rfl (vop_len (sz := 11) (l := p0) (f := cGSortKey) (by kernel_rfl) (by kernel_rfl)) ?_
    refine sts_ok 1 (s' := ⟨(14, (.d (.b (decide (x5 < (p0.length : Int)))))) :: (13, (.d (.i .i64 (p0.length : Int)))) :: (12, (.d (.sl 11 (p0.map cGSortKey)))) :: (11, (.d (.i .i64 x5))) :: (stwEqSortKeyS_L0 p0 p1 x5).env, (stwEqSortKeyS_L0 p0 p1 x5).bx⟩) (by kernel_rfl) ?_
    refine nil_in ?_
    refine next_in ?_
    refine cond_step h (by kernel_rfl) ?_ ?_
    · clear h; intro h
      refine skip_in ?_
      refine next_in ?_
      refine seq_in ?_
      refine block_in ?_
      refine seq_in ?_
      refine dops_in ?_
      refine dsts_ok 2 (s' := ⟨(18, (.d (.i .i64 x5))) :: (17, (.d (.sl 11 (p0.map cGSortKey)))) :: (14, (.d (.b (decide (x5 < (p0.length : Int)))))) :: (13, (.d (.i .i64 (p0.length : Int)))) :: (12, (.d (.sl 11 (p0.map cGSortKey)))) :: (11, (.d (.i .i64 x5))) :: (stwEqSortKeyS_L0 p0 p1 x5).env, (stwEqSortKeyS_L0 p0 p1 x5).bx⟩) (by kernel_rfl) ?_
      refine dv_step (m := idx p0 x5) (v' := fun y => (.rp [(.i .i64 y.expr.kind), (.i .i64 y.expr.op), (.b y.expr.not_), (.i .i64 y.expr.value.kind), (.i .i64 y.expr.value.num), (.s (bs y.expr.value.text)), (.s (bs y.expr.qual)), (.s (bs y.expr.name)), (.sl 10 (y.expr.kids.map cGExpr)), (.sl 6 (y.expr.sub.map cGQuery)), (.b y.desc)])) h rfl rfl (fun y hy => vop_ia (l := p0) (f := cGSortKey) (g := oGSortKey) (k := .i64) hy cGSortKey_eq (by kernel_rfl) (by kernel_rfl) (by kernel_rfl)) ?_
      clear h; intro y1 h
      refine dsts_ok 3 (s' := ⟨(22, (.d (.i .i64 x5))) :: (21, (.d (.sl 11 (p1.map cGSortKey)))) :: (20, (vGSortKey y1)) :: (19, (.rp [(.i .i64 y1.expr.kind), (.i .i64 y1.expr.op), (.b y1.expr.not_), (.i .i64 y1.expr.value.kind), (.i .i64 y1.expr.value.num), (.s (bs y1.expr.value.text)), (.s (bs y1.expr.qual)), (.s (bs y1.expr.name)), (.sl 10 (y1.expr.kids.map cGExpr)), (.sl 6 (y1.expr.sub.map cGQuery)), (.b y1.desc)])) :: (18, (.d (.i .i64 x5))) :: (17, (.d (.sl 11 (p0.map cGSortKey)))) :: (14, (.d (.b (decide (x5 < (p0.length : Int)))))) :: (13, (.d (.i .i64 (p0.length : Int)))) :: (12, (.d (.sl 11 (p0.map cGSortKey)))) :: (11, (.d (.i .i64 x5))) :: (stwEqSortKeyS_L0 p0 p1 x5).env, (stwEqSortKeyS_L0 p0 p1 x5).bx⟩) (by kernel_rfl) ?_
      refine dv_step (m := idx p1 x5) (v' := fun y => (.rp [(.i .i64 y.expr.kind), (.i .i64 y.expr.op), (.b y.expr.not_), (.i .i64 y.expr.value.kind), (.i .i64 y.expr.value.num), (.s (bs y.expr.value.text)), (.s (bs y.expr.qual)), (.s (bs y.expr.name)), (.sl 10 (y.expr.kids.map cGExpr)), (.sl 6 (y.expr.sub.map cGQuery)), (.b y.desc)])) h rfl rfl (fun y hy => vop_ia (l := p1) (f := cGSortKey) (g := oGSortKey) (k := .i64) hy cGSortKey_eq (by kernel_rfl) (by kernel_rfl) (by kernel_rfl)) ?_
      clear h; intro y2 h
      refine dsts_ok 1 (s' := ⟨(24, (vGSortKey y2)) :: (23, (.rp [(.i .i64 y2.expr.kind), (.i .i64 y2.expr.op), (.b y2.expr.not_), (.i .i64 y2.expr.value.kind), (.i .i64 y2.expr.value.num), (.s (bs y2.expr.value.text)), (.s (bs y2.expr.qual)), (.s (bs y2.expr.name)), (.sl 10 (y2.expr.kids.map cGExpr)), (.sl 6 (y2.expr.sub.map cGQuery)), (.b y2.desc)])) :: (22, (.d (.i .i64 x5))) :: (21, (.d (.sl 11 (p1.map cGSortKey)))) :: (20, (vGSortKey y1)) :: (19, (.rp [(.i .i64 y1.expr.kind), (.i .i64 y1.expr.op), (.b y1.expr.not_), (.i .i64 y1.expr.value.kind), (.i .i64 y1.expr.value.num), (.s (bs y1.expr.value.text)), (.s (bs y1.expr.qual)), (.s (bs y1.expr.name)), (.sl 10 (y1.expr.kids.map cGExpr)), (.sl 6 (y1.expr.sub.map cGQuery)), (.b y1.desc)])) :: (18, (.d (.i .i64 x5))) :: (17, (.d (.sl 11 (p0.map cGSortKey)))) :: (14, (.d (.b (decide (x5 < (p0.length : Int)))))) :: (13, (.d (.i .i64 (p0.length : Int)))) :: (12, (.d (.sl 11 (p0.map cGSortKey)))) :: (11, (.d (.i .i64 x5))) :: (stwEqSortKeyS_L0 p0 p1 x5).env, (stwEqSortKeyS_L0 p0 p1 x5).bx⟩) (by kernel_rfl) ?_
      refine dcall_step (m := F_wEqSortKey y1 y2) (args := [(vGSortKey y1), (vGSortKey y2)]) (v' := (fun y => (.d (.b y)))) h (OK_wEqSortKey y1 y2) (by kernel_rfl) (by kernel_rfl) (fun _ => rfl) ?_
      clear h; intro y3 h
      refine dsts_ok 1 (s' := ⟨(26, (.d (.b (!y3)))) :: (25, (.d (.b y3))) :: (24, (vGSortKey y2)) :: (23, (.rp [(.i .i64 y2.expr.kind), (.i .i64 y2.expr.op), (.b y2.expr.not_), (.i .i64 y2.expr.value.kind), (.i .i64 y2.expr.value.num), (.s (bs y2.expr.value.text)), (.s (bs y2.expr.qual)), (.s (bs y2.expr.name)), (.sl 10 (y2.expr.kids.map cGExpr)), (.sl 6 (y2.expr.sub.map cGQuery)), (.b y2.desc)])) :: (22, (.d (.i .i64 x5))) :: (21, (.d (.sl 11 (p1.map cGSortKey)))) :: (20, (vGSortKey y1)) :: (19, (.rp [(.i .i64 y1.expr.kind), (.i .i64 y1.expr.op), (.b y1.expr.not_), (.i .i64 y1.expr.value.kind), (.i .i64 y1.expr.value.num), (.s (bs y1.expr.value.text)), (.s (bs y1.expr.qual)), (.s (bs y1.expr.name)), (.sl 10 (y1.expr.kids.map cGExpr)), (.sl 6 (y1.expr.sub.map cGQuery)), (.b y1.desc)])) :: (18, (.d (.i .i64 x5))) :: (17, (.d (.sl 11 (p0.map cGSortKey)))) :: (14, (.d (.b (decide (x5 < (p0.length : Int)))))) :: (13, (.d (.i .i64 (p0.length : Int)))) :: (12, (.d (.sl 11 (p0.map cGSortKey)))) :: (11, (.d (.i .i64 x5))) :: (stwEqSortKeyS_L0 p0 p1 x5).env, (stwEqSortKeyS_L0 p0 p1 x5).bx⟩) (by kernel_rfl) ?_
      refine dnil_in (by kernel_rfl) (by kernel_rfl) ?_
      refine next_in ?_
      refine cond_step h (by kernel_rfl) ?_ ?_
      · clear h; intro h
        refine seq_in ?_
        refine ops_in ?_
        refine sts_ok 1 (s' := ⟨(4, (.d (.b false))) :: (26, (.d (.b (!y3)))) :: (25, (.d (.b y3))) :: (24, (vGSortKey y2)) :: (23, (.rp [(.i .i64 y2.expr.kind), (.i .i64 y2.expr.op), (.b y2.expr.not_), (.i .i64 y2.expr.value.kind), (.i .i64 y2.expr.value.num), (.s (bs y2.expr.value.text)), (.s (bs y2.expr.qual)), (.s (bs y2.expr.name)), (.sl 10 (y2.expr.kids.map cGExpr)), (.sl 6 (y2.expr.sub.map cGQuery)), (.b y2.desc)])) :: (22, (.d (.i .i64 x5))) :: (21, (.d (.sl 11 (p1.map cGSortKey)))) :: (20, (vGSortKey y1)) :: (19, (.rp [(.i .i64 y1.expr.kind), (.i .i64 y1.expr.op), (.b y1.expr.not_), (.i .i64 y1.expr.value.kind), (.i .i64 y1.expr.value.num), (.s (bs y1.expr.value.text)), (.s (bs y1.expr.qual)), (.s (bs y1.expr.name)), (.sl 10 (y1.expr.kids.map cGExpr)), (.sl 6 (y1.expr.sub.map cGQuery)), (.b y1.desc)])) :: (18, (.d (.i .i64 x5))) :: (17, (.d (.sl 11 (p0.map cGSortKey)))) :: (14, (.d (.b (decide (x5 < (p0.length : Int)))))) :: (13, (.d (.i .i64 (p0.length : Int)))) :: (12, (.d (.sl 11 (p0.map cGSortKey)))) :: (11, (.d (.i .i64 x5))) :: (stwEqSortKeyS_L0 p0 p1 x5).env, (stwEqSortKeyS_L0 p0 p1 x5).bx⟩) (by kernel_rfl) ?_
        refine nil_in ?_
        refine next_in ?_
        refine ret_in ?_
        refine blockK_ret ?_
        refine thenK_ret ?_
        refine thenK_ret ?_
        refine blockK_ret ?_
        refine thenK_ret ?_
        have h := Option.some.inj h; subst h
        exact ret1_step (v := (.d (.b false))) (by kernel_rfl) (by kernel_rfl) (by kernel_rfl)
      · clear h; intro h
        refine skip_in ?_
        refine blockK_norm ?_
        refine next_in ?_
        refine ops_in ?_
        refine sts_ok 3 (s' := ⟨(5, (.d (.i .i64 (IntKind.wrap .i64 (x5 + 1))))) :: (16, (.d (.i .i64 (IntKind.wrap .i64 (x5 + 1))))) :: (15, (.d (.i .i64 x5))) :: (26, (.d (.b (!y3)))) :: (25, (.d (.b y3))) :: (24, (vGSortKey y2)) :: (23, (.rp [(.i .i64 y2.expr.kind), (.i .i64 y2.expr.op), (.b y2.expr.not_), (.i .i64 y2.expr.value.kind), (.i .i64 y2.expr.value.num), (.s (bs y2.expr.value.text)), (.s (bs y2.expr.qual)), (.s (bs y2.expr.name)), (.sl 10 (y2.expr.kids.map cGExpr)), (.sl 6 (y2.expr.sub.map cGQuery)), (.b y2.desc)])) :: (22, (.d (.i .i64 x5))) :: (21, (.d (.sl 11 (p1.map cGSortKey)))) :: (20, (vGSortKey y1)) :: (19, (.rp [(.i .i64 y1.expr.kind), (.i .i64 y1.expr.op), (.b y1.expr.not_), (.i .i64 y1.expr.value.kind), (.i .i64 y1.expr.value.num), (.s (bs y1.expr.value.text)), (.s (bs y1.expr.qual)), (.s (bs y1.expr.name)), (.sl 10 (y1.expr.kids.map cGExpr)), (.sl 6 (y1.expr.sub.map cGQuery)), (.b y1.desc)])) :: (18, (.d (.i .i64 x5))) :: (17, (.d (.sl 11 (p0.map cGSortKey)))) :: (14, (.d (.b (decide (x5 < (p0.length : Int)))))) :: (13, (.d (.i .i64 (p0.length : Int)))) :: (12, (.d (.sl 11 (p0.map cGSortKey)))) :: (11, (.d (.i .i64 x5))) :: (stwEqSortKeyS_L0 p0 p1 x5).env, (stwEqSortKeyS_L0 p0 p1 x5).bx⟩) (by kernel_rfl) ?_
        refine nil_in ?_
        exact loop_back (s' := stwEqSortKeyS_L0 p0 p1 (IntKind.wrap .i64 (x5 + 1))) (wk_ren [] (by kernel_rfl) (er_cons (vr_same (by kernel_rfl) (by kernel_rfl)) (er_cons (vr_same (by kernel_rfl) (by kernel_rfl)) (er_cons (vr_same (by kernel_rfl) (by kernel_rfl)) (er_nil)))) (br_nil)) (OK_wEqSortKeyS_L0 p0 p1 (IntKind.wrap .i64 (x5 + 1)) _ h)
    · clear h; intro h
      refine exit_in ?_
      refine thenK_exit ?_
      refine thenK_exit ?_
      refine blockK_here ?_
      refine next_in ?_
      refine seq_in ?_
      refine ops_in ?_
      refine sts_ok 1 (s' := ⟨(4, (.d (.b true))) :: (14, (.d (.b (decide (x5 < (p0.length : Int)))))) :: (13, (.d (.i .i64 (p0.length : Int)))) :: (12, (.d (.sl 11 (p0.map cGSortKey)))) :: (11, (.d (.i .i64 x5))) :: (stwEqSortKeyS_L0 p0 p1 x5).env, (stwEqSortKeyS_L0 p0 p1 x5).bx⟩) (by kernel_rfl) ?_
      refine nil_in ?_
      refine next_in ?_
      refine ret_in ?_
      have h := Option.some.inj h; subst h
      exact ret1_step (v := (.d (.b true))) (by kernel_rfl) (by kernel_rfl) (by kernel_rfl)
  · intro F_wEqExpr OK_wEqExpr p0 p1 r h
    refine acalls_of_fn trwEqSortKey (Nat.le_of_ble_eq_true rfl) (by simp) ?_
    show avc Try.prog acwEqSortKey (qwEqSortKey _) ⟨[(0, (vGSortKey p0)), (1, (vGSortKey p1))], []⟩
    delta acwEqSortKey
    refine seq_in ?_
    refine ops_in ?_
    refine sts_ok 3 (s' := ⟨[(4, (.d (.b false))), (3, (.ptr 3 0)), (2, (.ptr 2 0)), (0, (vGSortKey p0)), (1, (vGSortKey p1))], [(3, [(.d (.i .i64 p1.expr.kind)), (.d (.i .i64 p1.expr.op)), (.d (.b p1.expr.not_)), (.d (.i .i64 p1.expr.value.kind)), (.d (.i .i64 p1.expr.value.num)), (.d (.s (bs p1.expr.value.text))), (.d (.s (bs p1.expr.qual))), (.d (.s (bs p1.expr.name))), (.d (.sl 10 (p1.expr.kids.map cGExpr))), (.d (.sl 6 (p1.expr.sub.map cGQuery))), (.d (.b p1.desc))]), (2, [(.d (.i .i64 p0.expr.kind)), (.d (.i .i64 p0.expr.op)), (.d (.b p0.expr.not_)), (.d (.i .i64 p0.expr.value.kind)), (.d (.i .i64 p0.expr.value.num)), (.d (.s (bs p0.expr.value.text))), (.d (.s (bs p0.expr.qual))), (.d (.s (bs p0.expr.name))), (.d (.sl 10 (p0.expr.kids.map cGExpr))), (.d (.sl 6 (p0.expr.sub.map cGQuery))), (.d (.b p0.desc))])]⟩) (by kernel_rfl) ?_
    refine nil_in ?_
    refine next_in ?_
    refine seq_in ?_
    refine seq_in ?_
    refine ops_in ?_
    refine sts_ok 4 (s' := ⟨[(8, (vGExpr p1.expr)), (7, (.ptr 3 0)), (6, (vGExpr p0.expr)), (5, (.ptr 2 0)), (4, (.d (.b false))), (3, (.ptr 3 0)), (2, (.ptr 2 0)), (0, (vGSortKey p0)), (1, (vGSortKey p1))], [(3, [(.d (.i .i64 p1.expr.kind)), (.d (.i .i64 p1.expr.op)), (.d (.b p1.expr.not_)), (.d (.i .i64 p1.expr.value.kind)), (.d (.i .i64 p1.expr.value.num)), (.d (.s (bs p1.expr.value.text))), (.d (.s (bs p1.expr.qual))), (.d (.s (bs p1.expr.name))), (.d (.sl 10 (p1.expr.kids.map cGExpr))), (.d (.sl 6 (p1.expr.sub.map cGQuery))), (.d (.b p1.desc))]), (2, [(.d (.i .i64 p0.expr.kind)), (.d (.i .i64 p0.expr.op)), (.d (.b p0.expr.not_)), (.d (.i .i64 p0.expr.value.kind)), (.d (.i .i64 p0.expr.value.num)), (.d (.s (bs p0.expr.value.text))), (.d (.s (bs p0.expr.qual))), (.d (.s (bs p0.expr.name))), (.d (.sl 10 (p0.expr.kids.map cGExpr))), (.d (.sl 6 (p0.expr.sub.map cGQuery))), (.d (.b p0.desc))])]⟩) (by kernel_rfl) ?_
    refine call_step (m := F_wEqExpr p0.expr p1.expr) (args := [(vGExpr p0.expr), (vGExpr p1.expr)]) (v' := (fun y => (.d (.b y)))) h (OK_wEqExpr p0.expr p1.expr) (by kernel_rfl) (by kernel_rfl) (fun _ => rfl) ?_
    clear h; intro y1 h
    refine sts_ok 1 (s' := ⟨[(10, (.d (.b (!y1)))), (9, (.d (.b y1))), (8, (vGExpr p1.expr)), (7, (.ptr 3 0)), (6, (vGExpr p0.expr)), (5, (.ptr 2 0)), (4, (.d (.b false))), (3, (.ptr 3 0)), (2, (.ptr 2 0)), (0, (vGSortKey p0)), (1, (vGSortKey p1))], [(3, [(.d (.i .i64 p1.expr.kind)), (.d (.i .i64 p1.expr.op)), (.d (.b p1.expr.not_)), (.d (.i .i64 p1.expr.value.kind)), (.d (.i .i64 p1.expr.value.num)), (.d (.s (bs p1.expr.value.text))), (.d (.s (bs p1.expr.qual))), (.d (.s (bs p1.expr.name))), (.d (.sl 10 (p1.expr.kids.map cGExpr))), (.d (.sl 6 (p1.expr.sub.map cGQuery))), (.d (.b p1.desc))]), (2, [(.d (.i .i64 p0.expr.kind)), (.d (.i .i64 p0.expr.op)), (.d (.b p0.expr.not_)), (.d (.i .i64 p0.expr.value.kind)), (.d (.i .i64 p0.expr.value.num)), (.d (.s (bs p0.expr.value.text))), (.d (.s (bs p0.expr.qual))), (.d (.s (bs p0.expr.name))), (.d (.sl 10 (p0.expr.kids.map cGExpr))), (.d (.sl 6 (p0.expr.sub.map cGQuery))), (.d (.b p0.desc))])]⟩) (by kernel_rfl) ?_
    refine nil_in ?_
    refine next_in ?_
    refine cond_step h (by kernel_rfl) ?_ ?_
    · clear h; intro h
      refine seq_in ?_
      refine ops_in ?_
      refine sts_ok 1 (s' := ⟨[(4, (.d (.b false))), (10, (.d (.b (!y1)))), (9, (.d (.b y1))), (8, (vGExpr p1.expr)), (7, (.ptr 3 0)), (6, (vGExpr p0.expr)), (5, (.ptr 2 0)), (4, (.d (.b false))), (3, (.ptr 3 0)), (2, (.ptr 2 0)), (0, (vGSortKey p0)), (1, (vGSortKey p1))], [(3, [(.d (.i .i64 p1.expr.kind)), (.d (.i .i64 p1.expr.op)), (.d (.b p1.expr.not_)), (.d (.i .i64 p1.expr.value.kind)), (.d (.i .i64 p1.expr.value.num)), (.d (.s (bs p1.expr.value.text))), (.d (.s (bs p1.expr.qual))), (.d (.s (bs p1.expr.name))), (.d (.sl 10 (p1.expr.kids.map cGExpr))), (.d (.sl 6 (p1.expr.sub.map cGQuery))), (.d (.b p1.desc))]), (2, [(.d (.i .i64 p0.expr.kind)), (.d (.i .i64 p0.expr.op)), (.d (.b p0.expr.not_)), (.d (.i .i64 p0.expr.value.kind)), (.d (.i .i64 p0.expr.value.num)), (.d (.s (bs p0.expr.value.text))), (.d (.s (bs p0.expr.qual))), (.d (.s (bs p0.expr.name))), (.d (.sl 10 (p0.expr.kids.map cGExpr))), (.d (.sl 6 (p0.expr.sub.map cGQuery))), (.d (.b p0.desc))])]⟩) (by kernel_rfl) ?_
      refine nil_in ?_
      refine next_in ?_
      refine ret_in ?_
      refine thenK_ret ?_
      have h := Option.some.inj h; subst h
      exact ret1_step (v := (.d (.b false))) (by kernel_rfl) (by kernel_rfl) (by kernel_rfl)
    · clear h; intro h
      refine skip_in ?_
      refine next_in ?_
      refine seq_in ?_
      refine seq_in ?_
      refine ops_in ?_
      refine sts_ok 5 (s' := ⟨[(15, (.d (.b (!(p0.desc == p1.desc))))), (14, (.d (.b p1.desc))), (13, (.ptr 3 10)), (12, (.d (.b p0.desc))), (11, (.ptr 2 10)), (10, (.d (.b (!y1)))), (9, (.d (.b y1))), (8, (vGExpr p1.expr)), (7, (.ptr 3 0)), (6, (vGExpr p0.expr)), (5, (.ptr 2 0)), (4, (.d (.b false))), (3, (.ptr 3 0)), (2, (.ptr 2 0)), (0, (vGSortKey p0)), (1, (vGSortKey p1))], [(3, [(.d (.i .i64 p1.expr.kind)), (.d (.i .i64 p1.expr.op)), (.d (.b p1.expr.not_)), (.d (.i .i64 p1.expr.value.kind)), (.d (.i .i64 p1.expr.value.num)), (.d (.s (bs p1.expr.value.text))), (.d (.s (bs p1.expr.qual))), (.d (.s (bs p1.expr.name))), (.d (.sl 10 (p1.expr.kids.map cGExpr))), (.d (.sl 6 (p1.expr.sub.map cGQuery))), (.d (.b p1.desc))]), (2, [(.d (.i .i64 p0.expr.kind)), (.d (.i .i64 p0.expr.op)), (.d (.b p0.expr.not_)), (.d (.i .i64 p0.expr.value.kind)), (.d (.i .i64 p0.expr.value.num)), (.d (.s (bs p0.expr.value.text))), (.d (.s (bs p0.expr.qual))), (.d (.s (bs p0.expr.name))), (.d (.sl 10 (p0.expr.kids.map cGExpr))), (.d (.sl 6 (p0.expr.sub.map cGQuery))), (.d (.b p0.desc))])]⟩) (by kernel_rfl) ?_
      refine nil_in ?_
      refine next_in ?_
      refine cond_step h (by kernel_rfl) ?_ ?_
      · clear h; intro h
        refine seq_in ?_
        refine ops_in ?_
        refine sts_ok 1 (s' := ⟨[(4, (.d (.b false))), (15, (.d (.b (!(p0.desc == p1.desc))))), (14, (.d (.b p1.desc))), (13, (.ptr 3 10)), (12, (.d (.b p0.desc))), (11, (.ptr 2 10)), (10, (.d (.b (!y1)))), (9, (.d (.b y1))), (8, (vGExpr p1.expr)), (7, (.ptr 3 0)), (6, (vGExpr p0.expr)), (5, (.ptr 2 0)), (4, (.d (.b false))), (3, (.ptr 3 0)), (2, (.ptr 2 0)), (0, (vGSortKey p0)), (1, (vGSortKey p1))], [(3, [(.d (.i .i64 p1.expr.kind)), (.d (.i .i64 p1.expr.op)), (.d (.b p1.expr.not_)), (.d (.i .i64 p1.expr.value.kind)), (.d (.i .i64 p1.expr.value.num)), (.d (.s (bs p1.expr.value.text))), (.d (.s (bs p1.expr.qual))), (.d (.s (bs p1.expr.name))), (.d (.sl 10 (p1.expr.kids.map cGExpr))), (.d (.sl 6 (p1.expr.sub.map cGQuery))), (.d (.b p1.desc))]), (2, [(.d (.i .i64 p0.expr.kind)), (.d (.i .i64 p0.expr.op)), (.d (.b p0.expr.not_)), (.d (.i .i64 p0.expr.value.kind)), (.d (.i .i64 p0.expr.value.num)), (.d (.s (bs p0.expr.value.text))), (.d (.s (bs p0.expr.qual))), (.d (.s (bs p0.expr.name))), (.d (.sl 10 (p0.expr.kids.map cGExpr))), (.d (.sl 6 (p0.expr.sub.map cGQuery))), (.d (.b p0.desc))])]⟩) (by kernel_rfl) ?_
        refine nil_in ?_
        refine next_in ?_
        refine ret_in ?_
        refine thenK_ret ?_
        have h := Option.some.inj h; subst h
        exact ret1_step (v := (.d (.b false))) (by kernel_rfl) (by kernel_rfl) (by kernel_rfl)
      · clear h; intro h
        refine skip_in ?_
        refine next_in ?_
        refine seq_in ?_
        refine ops_in ?_
        refine sts_ok 1 (s' := ⟨[(4, (.d (.b true))), (15, (.d (.b (!(p0.desc == p1.desc))))), (14, (.d (.b p1.desc))), (13, (.ptr 3 10)), (12, (.d (.b p0.desc))), (11, (.ptr 2 10)), (10, (.d (.b (!y1)))), (9, (.d (.b y1))), (8, (vGExpr p1.expr)), (7, (.ptr 3 0)), (6, (vGExpr p0.expr)), (5, (.ptr 2 0)), (4, (.d (.b false))), (3, (.ptr 3 0)), (2, (.ptr 2 0)), (0, (vGSortKey p0)), (1, (vGSortKey p1))], [(3, [(.d (.i .i64 p1.expr.kind)), (.d (.i .i64 p1.expr.op)), (.d (.b p1.expr.not_)), (.d (.i .i64 p1.expr.value.kind)), (.d (.i .i64 p1.expr.value.num)), (.d (.s (bs p1.expr.value.text))), (.d (.s (bs p1.expr.qual))), (.d (.s (bs p1.expr.name))), (.d (.sl 10 (p1.expr.kids.map cGExpr))), (.d (.sl 6 (p1.expr.sub.map cGQuery))), (.d (.b p1.desc))]), (2, [(.d (.i .i64 p0.expr.kind)), (.d (.i .i64 p0.expr.op)), (.d (.b p0.expr.not_)), (.d (.i .i64 p0.expr.value.kind)), (.d (.i .i64 p0.expr.value.num)), (.d (.s (bs p0.expr.value.text))), (.d (.s (bs p0.expr.qual))), (.d (.s (bs p0.expr.name))), (.d (.sl 10 (p0.expr.kids.map cGExpr))), (.d (.sl 6 (p0.expr.sub.map cGQuery))), (.d (.b p0.desc))])]⟩) (by kernel_rfl) ?_
        refine nil_in ?_
        refine next_in ?_
        refine ret_in ?_
        have h := Option.some.inj h; subst h
        exact ret1_step (v := (.d (.b true))) (by kernel_rfl) (by kernel_rfl) (by kernel_rfl)
  · intro F_wEqSourceS_L0 OK_wEqSourceS_L0 p0 p1 r h
    refine acalls_of_fn trwEqSourceS (Nat.le_of_ble_eq_true rfl) (by simp) ?_
    show avc Try.prog acwEqSourceS (qwEqSourceS _) ⟨[(0, (.d (.sl 3 (p0.map cGSource)))), (1, (.d (.sl 3 (p1.map cGSource))))], []⟩
    delta acwEqSourceS
    refine seq_in ?_
    refine ops_in ?_
    refine sts_ok 1 (s' := ⟨[(4, (.d (.b false))), (0, (.d (.sl 3 (p0.map cGSource)))), (1, (.d (.sl 3 (p1.map cGSource))))], []⟩) (by kernel_rfl) ?_
    refine nil_in ?_
    refine next_in ?_
    refine seq_in ?_
    refine seq_in ?_
    refine ops_in ?_
    refine sts_ok 1 (s' := ⟨[(6, (.d (.sl 3 (p0.map cGSource)))), (4, (.d (.b false))), (0, (.d (.sl 3 (p0.map cGSource)))), (1, (.d (.sl 3 (p1.map cGSource))))], []⟩) (by kernel_rfl) ?_
    refine p_step (v' := (.d (.i .i64 (p0.length : Int)))) rfl rfl (vop_len (sz := 3) (l := p0) (f := cGSource) (by kernel_rfl) (by kernel_rfl)) ?_
    refine sts_ok 1 (s' := ⟨[(8, (.d (.sl 3 (p1.map cGSource)))), (7, (.d (.i .i64 (p0.length : Int)))), (6, (.d (.sl 3 (p0.map cGSource)))), (4, (.d (.b false))), (0, (.d (.sl 3 (p0.map cGSource)))), (1, (.d (.sl 3 (p1.map cGSource))))], []⟩) (by kernel_rfl) ?_
    refine p_step (v' := (.d (.i .i64 (p1.length : Int)))) rfl rfl (vop_len (sz := 3) (l := p1) (f := cGSource) (by kernel_rfl) (by kernel_rfl)) ?_
    refine sts_ok 1 (s' := ⟨[(10, (.d (.b (!decide ((p0.length : Int) = (p1.length : Int)))))), (9, (.d (.i .i64 (p1.length : Int)))), (8, (.d (.sl 3 (p1.map cGSource)))), (7, (.d (.i .i64 (p0.length : Int)))), (6, (.d (.sl 3 (p0.map cGSource)))), (4, (.d (.b false))), (0, (.d (.sl 3 (p0.map cGSource)))), (1, (.d (.sl 3 (p1.map cGSource))))], []⟩) (by kernel_rfl) ?_
    refine nil_in ?_
    refine next_in ?_
    refine cond_step h (by kernel_rfl) ?_ ?_
    · clear h; intro h
      refine seq_in ?_
      refine ops_in ?_
      refine sts_ok 1 (s' := ⟨[(4, (.d (.b false))), (10, (.d (.b (!decide ((p0.length : Int) = (p1.length : Int)))))), (9, (.d (.i .i64 (p1.length : Int)))), (8, (.d (.sl 3 (p1.map cGSource)))), (7, (.d (.i .i64 (p0.length : Int)))), (6, (.d (.sl 3 (p0.map cGSource)))), (4, (.d (.b false))), (0, (.d (.sl 3 (p0.map cGSource)))), (1, (.d (.sl 3 (p1.map cGSource))))], []⟩) (by kernel_rfl) ?_
      refine nil_in ?_
      refine next_in ?_
      refine ret_in ?_
      refine thenK_ret ?_
      have h := Option.some.inj h; subst h
      exact ret1_step (v := (.d (.b false))) (by kernel_rfl) (by kernel_rfl) (by kernel_rfl)
    · clear h; intro h
      refine skip_in ?_
      refine next_in ?_
      refine seq_in ?_
      refine seq_in ?_
      refine ops_in ?_
      refine sts_ok 1 (s' := ⟨[(5, (.d (.i .i64 0))), (10, (.d (.b (!decide ((p0.length : Int) = (p1.length : Int)))))), (9, (.d (.i .i64 (p1.length : Int)))), (8, (.d (.sl 3 (p1.map cGSource)))), (7, (.d (.i .i64 (p0.length : Int)))), (6, (.d (.sl 3 (p0.map cGSource)))), (4, (.d (.b false))), (0, (.d (.sl 3 (p0.map cGSource)))), (1, (.d (.sl 3 (p1.map cGSource))))], []⟩) (by kernel_rfl) ?_
      refine nil_in ?_
      refine next_in ?_
      refine block_in ?_
      exact loop_go (s' := stwEqSourceS_L0 p0 p1 0) (wk_ren [] (by kernel_rfl) (er_cons (vr_same (by kernel_rfl) (by kernel_rfl)) (er_cons (vr_same (by kernel_rfl) (by kernel_rfl)) (er_cons (vr_same (by kernel_rfl) (by kernel_rfl)) (er_nil)))) (br_nil)) (OK_wEqSourceS_L0 p0 p1 0 _ h)
  · intro F_wEqSource F_wEqSourceS_L0 OK_wEqSource OK_wEqSourceS_L0 p0 p1 x5 r h
    delta acwEqSourceS_L0
    refine loop_unroll ?_
    refine seq_in ?_
    refine seq_in ?_
    refine ops_in ?_
    refine sts_ok 2 (s' := ⟨(12, (.d (.sl 3 (p0.map cGSource)))) :: (11, (.d (.i .i64 x5))) :: (stwEqSourceS_L0 p0 p1 x5).env, (stwEqSourceS_L0 p0 p1 x5).bx⟩) (by kernel_rfl) ?_
    refine p_step (v' := (.d (.i .i64 (p0.length : Int)))) rfl rfl (vop_len (sz := 3) (l := p0) (f := cGSource) (by kernel_rfl) (by kernel_rfl)) ?_
    refine sts_ok 1 (s' := ⟨(14, (.d (.b (decide (x5 < (p0.length : Int)))))) :: (13, (.d (.i .i64 (p0.length : Int)))) :: (12, (.d (.sl 3 (p0.map cGSource)))) :: (11, (.d (.i .i64 x5))) :: (stwEqSourceS_L0 p0 p1 x5).env, (stwEqSourceS_L0 p0 p1 x5).bx⟩) (by kernel_rfl) ?_
    refine nil_in ?_
    refine next_in ?_
    refine cond_step h (by kernel_rfl) ?_ ?_
    · clear h; intro h
      refine skip_in ?_
      refine next_in ?_
      refine seq_in ?_
      refine block_in ?_
      refine seq_in ?_
      refine dops_in ?_
      refine dsts_ok 2 (s' := ⟨(18, (.d (.i .i64 x5))) :: (17, (.d (.sl 3 (p0.map cGSource)))) :: (14, (.d (.b (decide (x5 < (p0.length : Int)))))) :: (13, (.d (.i .i64 (p0.length : Int)))) :: (12, (.d (.sl 3 (p0.map cGSource)))) :: (11, (.d (.i .i64 x5))) :: (stwEqSourceS_L0 p0 p1 x5).env, (stwEqSourceS_L0 p0 p1 x5).bx⟩) (by kernel_rfl) ?_
      refine dv_step (m := idx p0 x5) (v' := fun y => (.rp [(.s (bs y.table)), (.s (bs y.as_)), (.sl 10 (y.on_.map cGExpr))])) h rfl rfl (fun y hy => vop_ia (l := p0) (f := cGSource) (g := oGSource) (k := .i64) hy cGSource_eq (by kernel_rfl) (by kernel_rfl) (by kernel_rfl)) ?_
      clear h; intro y1 h
      refine dsts_ok 3 (s' := ⟨(22, (.d (.i .i64 x5))) :: (21, (.d (.sl 3 (p1.map cGSource)))) :: (20, (vGSource y1)) :: (19, (.rp [(.s (bs y1.table)), (.s (bs y1.as_)), (.sl 10 (y1.on_.map cGExpr))])) :: (18, (.d (.i .i64 x5))) :: (17, (.d (.sl 3 (p0.map cGSource)))) :: (14, (.d (.b (decide (x5 < (p0.length : Int)))))) :: (13, (.d (.i .i64 (p0.length : Int)))) :: (12, (.d (.sl 3 (p0.map cGSource)))) :: (11, (.d (.i .i64 x5))) :: (stwEqSourceS_L0 p0 p1 x5).env, (stwEqSourceS_L0 p0 p1 x5).bx⟩) (by kernel_rfl) ?_
      refine dv_step (m := idx p1 x5) (v' := fun y => (.rp [(.s (bs y.table)), (.s (bs y.as_)), (.sl 10 (y.on_.map cGExpr))])) h rfl rfl (fun y hy => vop_ia (l := p1) (f := cGSource) (g := oGSource) (k := .i64) hy cGSource_eq (by kernel_rfl) (by kernel_rfl) (by kernel_rfl)) ?_
      clear h; intro y2 h
      refine dsts_ok 1 (s' := ⟨(24, (vGSource y2)) :: (23, (.rp [(.s (bs y2.table)), (.s (bs y2.as_)), (.sl 10 (y2.on_.map cGExpr))])) :: (22, (.d (.i .i64 x5))) :: (21, (.d (.sl 3 (p1.map cGSource)))) :: (20, (vGSource y1)) :: (19, (.rp [(.s (bs y1.table)), (.s (bs y1.as_)), (.sl 10 (y1.on_.map cGExpr))])) :: (18, (.d (.i .i64 x5))) :: (17, (.d (.sl 3 (p0.map cGSource)))) :: (14, (.d (.b (decide (x5 < (p0.length : Int)))))) :: (13, (.d (.i .i64 (p0.length : Int)))) :: (12, (.d (.sl 3 (p0.map cGSource)))) :: (11, (.d (.i .i64 x5))) :: (stwEqSourceS_L0 p0 p1 x5).env, (stwEqSourceS_L0 p0 p1 x5).bx⟩) (by kernel_rfl) ?_
      refine dcall_step (m := F_wEqSource y1 y2) (args := [(vGSource y1), (vGSource y2)]) (v' := (fun y => (.d (.b y)))) h (OK_wEqSource y1 y2) (by kernel_rfl) (by kernel_rfl) (fun _ => rfl) ?_
      clear h; intro y3 h
      refine dsts_ok 1 (s' := ⟨(26, (.d (.b (!y3)))) :: (25, (.d (.b y3))) :: (24, (vGSource y2)) :: (23, (.rp [(.s (bs y2.table)), (.s (bs y2.as_)), (.sl 10 (y2.on_.map cGExpr))])) :: (22, (.d (.i .i64 x5))) :: (21, (.d (.sl 3 (p1.map cGSource)))) :: (20, (vGSource y1)) :: (19, (.rp [(.s (bs y1.table)), (.s (bs y1.as_)), (.sl 10 (y1.on_.map cGExpr))])) :: (18, (.d (.i .i64 x5))) :: (17, (.d (.sl 3 (p0.map cGSource)))) :: (14, (.d (.b (decide (x5 < (p0.length : Int)))))) :: (13, (.d (.i .i64 (p0.length : Int)))) :: (12, (.d (.sl 3 (p0.map cGSource)))) :: (11, (.d (.i .i64 x5))) :: (stwEqSourceS_L0 p0 p1 x5).env, (stwEqSourceS_L0 p0 p1 x5).bx⟩) (by kernel_rfl) ?_
      refine dnil_in (by kernel_rfl) (by kernel_rfl) ?_
      refine next_in ?_
      refine cond_step h (by kernel_rfl) ?_ ?_
      · clear h; intro h
        refine seq_in ?_
        refine ops_in ?_
        refine sts_ok 1 (s' := ⟨(4, (.d (.b false))) :: (26, (.d (.b (!y3)))) :: (25, (.d (.b y3))) :: (24, (vGSource y2)) :: (23, (.rp [(.s (bs y2.table)), (.s (bs y2.as_)), (.sl 10 (y2.on_.map cGExpr))])) :: (22, (.d (.i .i64 x5))) :: (21, (.d (.sl 3 (p1.map cGSource)))) :: (20, (vGSource y1)) :: (19, (.rp [(.s (bs y1.table)), (.s (bs y1.as_)), (.sl 10 (y1.on_.map cGExpr))])) :: (18, (.d (.i .i64 x5))) :: (17, (.d (.sl 3 (p0.map cGSource)))) :: (14, (.d (.b (decide (x5 < (p0.length : Int)))))) :: (13, (.d (.i .i64 (p0.length : Int)))) :: (12, (.d (.sl 3 (p0.map cGSource)))) :: (11, (.d (.i .i64 x5))) :: (stwEqSourceS_L0 p0 p1 x5).env, (stwEqSourceS_L0 p0 p1 x5).bx⟩) (by kernel_rfl) ?_
        refine nil_in ?_
        refine next_in ?_
        refine ret_in ?_
        refine blockK_ret ?_
        refine thenK_ret ?_
        refine thenK_ret ?_
        refine blockK_ret ?_
        refine thenK_ret ?_
        have h := Option.some.inj h; subst h
        exact ret1_step (v := (.d (.b false))) (by kernel_rfl) (by kernel_rfl) (by kernel_rfl)
      · clear h; intro h
        refine skip_in ?_
        refine blockK_norm ?_
        refine next_in ?_
        refine ops_in ?_
        refine sts_ok 3 (s' := ⟨(5, (.d (.i .i64 (IntKind.wrap .i64 (x5 + 1))))) :: (16, (.d (.i .i64 (IntKind.wrap .i64 (x5 + 1))))) :: (15, (.d (.i .i64 x5))) :: (26, (.d (.b (!y3)))) :: (25, (.d (.b y3))) :: (24, (vGSource y2)) :: (23, (.rp [(.s (bs y2.table)), (.s (bs y2.as_)), (.sl 10 (y2.on_.map cGExpr))])) :: (22, (.d (.i .i64 x5))) :: (21, (.d (.sl 3 (p1.map cGSource)))) :: (20, (vGSource y1)) :: (19, (.rp [(.s (bs y1.table)), (.s (bs y1.as_)), (.sl 10 (y1.on_.map cGExpr))])) :: (18, (.d (.i .i64 x5))) :: (17, (.d (.sl 3 (p0.map cGSource)))) :: (14, (.d (.b (decide (x5 < (p0.length : Int)))))) :: (13, (.d (.i .i64 (p0.length : Int)))) :: (12, (.d (.sl 3 (p0.map cGSource)))) :: (11, (.d (.i .i64 x5))) :: (stwEqSourceS_L0 p0 p1 x5).env, (stwEqSourceS_L0 p0 p1 x5).bx⟩) (by kernel_rfl) ?_
        refine nil_in ?_
        exact loop_back (s' := stwEqSourceS_L0 p0 p1 (IntKind.wrap .i64 (x5 + 1))) (wk_ren [] (by kernel_rfl) (er_cons (vr_same (by kernel_rfl) (by kernel_rfl)) (er_cons (vr_same (by kernel_rfl) (by kernel_rfl)) (er_cons (vr_same (by kernel_rfl) (by kernel_rfl)) (er_nil)))) (br_nil)) (OK_wEqSourceS_L0 p0 p1 (IntKind.wrap .i64 (x5 + 1)) _ h)
    · clear h; intro h
      refine exit_in ?_
      refine thenK_exit ?_
      refine thenK_exit ?_
      refine blockK_here ?_
      refine next_in ?_
      refine seq_in ?_
      refine ops_in ?_
      refine sts_ok 1 (s' := ⟨(4, (.d (.b true))) :: (14, (.d (.b (decide (x5 < (p0.length : Int)))))) :: (13, (.d (.i .i64 (p0.length : Int)))) :: (12, (.d (.sl 3 (p0.map cGSource)))) :: (11, (.d (.i .i64 x5))) :: (stwEqSourceS_L0 p0 p1 x5).env, (stwEqSourceS_L0 p0 p1 x5).bx⟩) (by kernel_rfl) ?_
      refine nil_in ?_
      refine next_in ?_
      refine ret_in ?_
      have h := Option.some.inj h; subst h
      exact ret1_step (v := (.d (.b true))) (by kernel_rfl) (by kernel_rfl) (by kernel_rfl)
  · intro F_wEqItemS_L0 OK_wEqItemS_L0 p0 p1 r h
    refine acalls_of_fn trwEqItemS (Nat.le_of_ble_eq_true rfl) (by simp) ?_
    show avc Try.prog acwEqItemS (qwEqItemS _) ⟨[(0, (.d (.sl 13 (p0.map cGItem)))), (1, (.d (.sl 13 (p1.map cGItem))))], []⟩
    delta acwEqItemS
    refine seq_in ?_
    refine ops_in ?_
    refine sts_ok 1 (s' := ⟨[(4, (.d (.b false))), (0, (.d (.sl 13 (p0.map cGItem)))), (1, (.d (.sl 13 (p1.map cGItem))))], []⟩) (by kernel_rfl) ?_
    refine nil_in ?_
    refine next_in ?_
    refine seq_in ?_
    refine seq_in ?_
    refine ops_in ?_
    refine sts_ok 1 (s' := ⟨[(6, (.d (.sl 13 (p0.map cGItem)))), (4, (.d (.b false))), (0, (.d (.sl 13 (p0.map cGItem)))), (1, (.d (.sl 13 (p1.map cGItem))))], []⟩) (by kernel_rfl) ?_
    refine p_step (v' := (.d (.i .i64 (p0.length : Int)))) rfl rfl (vop_len (sz := 13) (l := p0) (f := cGItem) (by kernel_rfl) (by kernel_rfl)) ?_
    refine sts_ok 1 (s' := ⟨[(8, (.d (.sl 13 (p1.map cGItem)))), (7, (.d (.i .i64 (p0.length : Int)))), (6, (.d (.sl 13 (p0.map cGItem)))), (4, (.d (.b false))), (0, (.d (.sl 13 (p0.map cGItem)))), (1, (.d (.sl 13 (p1.map cGItem))))], []⟩) (by kernel_rfl) ?_
    refine p_step (v' := (.d (.i .i64 (p1.length : Int)))) rfl rfl (vop_len (sz := 13) (l := p1) (f := cGItem) (by kernel_rfl) (by kernel_rfl)) ?_
    refine sts_ok 1 (s' := ⟨[(10, (.d (.b (!decide ((p0.length : Int) = (p1.length : Int)))))), (9, (.d (.i .i64 (p1.length : Int)))), (8, (.d (.sl 13 (p1.map cGItem)))), (7, (.d (.i .i64 (p0.length : Int)))), (6, (.d (.sl 13 (p0.map cGItem)))), (4, (.d (.b false))), (0, (.d (.sl 13 (p0.map cGItem)))), (1, (.d (.sl 13 (p1.map cGItem))))], []⟩) (by kernel_rfl) ?_
    refine nil_in ?_
    refine next_in ?_
    refine cond_step h (by kernel_rfl) ?_ ?_
    · clear h; intro h
      refine seq_in ?_
      refine ops_in ?_
      refine sts_ok 1 (s' := ⟨[(4, (.d (.b false))), (10, (.d (.b (!decide ((p0.length : Int) = (p1.length : Int)))))), (9, (.d (.i .i64 (p1.length : Int)))), (8, (.d (.sl 13 (p1.map cGItem)))), (7, (.d (.i .i64 (p0.length : Int)))), (6, (.d (.sl 13 (p0.map cGItem)))), (4, (.d (.b false))), (0, (.d (.sl 13 (p0.map cGItem)))), (1, (.d (.sl 13 (p1.map cGItem))))], []⟩) (by kernel_rfl) ?_
      refine nil_in ?_
      refine next_in ?_
      refine ret_in ?_
      refine thenK_ret ?_
      have h := Option.some.inj h; subst h
      exact ret1_step (v := (.d (.b false))) (by kernel_rfl) (by kernel_rfl) (by kernel_rfl)
    · clear h; intro h
      refine skip_in ?_
      refine next_in ?_
      refine seq_in ?_
      refine seq_in ?_
      refine ops_in ?_
      refine sts_ok 1 (s' := ⟨[(5, (.d (.i .i64 0))), (10, (.d (.b (!decide ((p0.length : Int) = (p1.length : Int)))))), (9, (.d (.i .i64 (p1.length : Int)))), (8, (.d (.sl 13 (p1.map cGItem)))), (7, (.d (.i .i64 (p0.length : Int)))), (6, (.d (.sl 13 (p0.map cGItem)))), (4, (.d (.b false))), (0, (.d (.sl 13 (p0.map cGItem)))), (1, (.d (.sl 13 (p1.map cGItem))))], []⟩) (by kernel_rfl) ?_
      refine nil_in ?_
      refine next_in ?_
      refine block_in ?_
      exact loop_go (s' := stwEqItemS_L0 p0 p1 0) (wk_ren [] (by kernel_rfl) (er_cons (vr_same (by kernel_rfl) (by kernel_rfl)) (er_cons (vr_same (by kernel_rfl) (by kernel_rfl)) (er_cons (vr_same (by kernel_rfl) (by kernel_rfl)) (er_nil)))) (br_nil)) (OK_wEqItemS_L0 p0 p1 0 _ h)
  · intro F_wEqItemS_L0 F_wEqItem OK_wEqItemS_L0 OK_wEqItem p0 p1 x5 r h
    delta acwEqItemS_L0
    refine loop_unroll ?_
    refine seq_in ?_
    refine seq_in ?_
    refine ops_in ?_
    refine sts_ok 2 (s' := ⟨(12, (.d (.sl 13 (p0.map cGItem)))) :: (11, (.d (.i .i64 x5))) :: (stwEqItemS_L0 p0 p1 x5).env, (stwEqItemS_L0 p0 p1 x5).bx⟩) (by kernel_rfl) ?_
    refine p_step (v' := (.d (.i .i64 (p0.length : Int)))) rfl rfl (vop_len (sz := 13) (l := p0) (f := cGItem) (by kernel_rfl) (by kernel_rfl)) ?_
    refine sts_ok 1 (s' := ⟨(14, (.d (.b (decide (x5 < (p0.length : Int)))))) :: (13, (.d (.i .i64 (p0.length : Int)))) :: (12, (.d (.sl 13 (p0.map cGItem)))) :: (11, (.d (.i .i64 x5))) :: (stwEqItemS_L0 p0 p1 x5).env, (stwEqItemS_L0 p0 p1 x5).bx⟩) (by kernel_rfl) ?_
    refine nil_in ?_
    refine next_in ?_
    refine cond_step h (by kernel_rfl) ?_ ?_
    · clear h; intro h
      refine skip_in ?_
      refine next_in ?_
      refine seq_in ?_
      refine block_in ?_
      refine seq_in ?_
      refine dops_in ?_
      refine dsts_ok 2 (s' := ⟨(18, (.d (.i .i64 x5))) :: (17, (.d (.sl 13 (p0.map cGItem)))) :: (14, (.d (.b (decide (x5 < (p0.length : Int)))))) :: (13, (.d (.i .i64 (p0.length : Int)))) :: (12, (.d (.sl 13 (p0.map cGItem)))) :: (11, (.d (.i .i64 x5))) :: (stwEqItemS_L0 p0 p1 x5).env, (stwEqItemS_L0 p0 p1 x5).bx⟩) (by kernel_rfl) ?_
      refine dv_step (m := idx p0 x5) (v' := fun y => (.rp [(.b y.star), (.s (bs y.qual)), (.i .i64 y.expr.kind), (.i .i64 y.expr.op), (.b y.expr.not_), (.i .i64 y.expr.value.kind), (.i .i64 y.expr.value.num), (.s (bs y.expr.value.text)), (.s (bs y.expr.qual)), (.s (bs y.expr.name)), (.sl 10 (y.expr.kids.map cGExpr)), (.sl 6 (y.expr.sub.map cGQuery)), (.s (bs y.as_))])) h rfl rfl (fun y hy => vop_ia (l := p0) (f := cGItem) (g := oGItem) (k := .i64) hy cGItem_eq (by kernel_rfl) (by kernel_rfl) (by kernel_rfl)) ?_
      clear h; intro y1 h
      refine dsts_ok 3 (s' := ⟨(22, (.d (.i .i64 x5))) :: (21, (.d (.sl 13 (p1.map cGItem)))) :: (20, (vGItem y1)) :: (19, (.rp [(.b y1.star), (.s (bs y1.qual)), (.i .i64 y1.expr.kind), (.i .i64 y1.expr.op), (.b y1.expr.not_), (.i .i64 y1.expr.value.kind), (.i .i64 y1.expr.value.num), (.s (bs y1.expr.value.text)), (.s (bs y1.expr.qual)), (.s (bs y1.expr.name)), (.sl 10 (y1.expr.kids.map cGExpr)), (.sl 6 (y1.expr.sub.map cGQuery)), (.s (bs y1.as_))])) :: (18, (.d (.i .i64 x5))) :: (17, (.d (.sl 13 (p0.map cGItem)))) :: (14, (.d (.b (decide (x5 < (p0.length : Int)))))) :: (13, (.d (.i .i64 (p0.length : Int)))) :: (12, (.d (.sl 13 (p0.map cGItem)))) :: (11, (.d (.i .i64 x5))) :: (stwEqItemS_L0 p0 p1 x5).env, (stwEqItemS_L0 p0 p1 x5).bx⟩) (by kernel_rfl) ?_
      refine dv_step (m := idx p1 x5) (v' := fun y => (.rp [(.b y.star), (.s (bs y.qual)), (.i .i64 y.expr.kind), (.i .i64 y.expr.op), (.b y.expr.not_), (.i .i64 y.expr.value.kind), (.i .i64 y.expr.value.num), (.s (bs y.expr.value.text)), (.s (bs y.expr.qual)), (.s (bs y.expr.name)), (.sl 10 (y.expr.kids.map cGExpr)), (.sl 6 (y.expr.sub.map cGQuery)), (.s (bs y.as_))])) h rfl rfl (fun y hy => vop_ia (l := p1) (f := cGItem) (g := oGItem) (k := .i64) hy cGItem_eq (by kernel_rfl) (by kernel_rfl) (by kernel_rfl)) ?_
      clear h; intro y2 h
      refine dsts_ok 1 (s' := ⟨(24, (vGItem y2)) :: (23, (.rp [(.b y2.star), (.s (bs y2.qual)), (.i .i64 y2.expr.kind), (.i .i64 y2.expr.op), (.b y2.expr.not_), (.i .i64 y2.expr.value.kind), (.i .i64 y2.expr.value.num), (.s (bs y2.expr.value.text)), (.s (bs y2.expr.qual)), (.s (bs y2.expr.name)), (.sl 10 (y2.expr.kids.map cGExpr)), (.sl 6 (y2.expr.sub.map cGQuery)), (.s (bs y2.as_))])) :: (22, (.d (.i .i64 x5))) :: (21, (.d (.sl 13 (p1.map cGItem)))) :: (20, (vGItem y1)) :: (19, (.rp [(.b y1.star), (.s (bs y1.qual)), (.i .i64 y1.expr.kind), (.i .i64 y1.expr.op), (.b y1.expr.not_), (.i .i64 y1.expr.value.kind), (.i .i64 y1.expr.value.num), (.s (bs y1.expr.value.text)), (.s (bs y1.expr.qual)), (.s (bs y1.expr.name)), (.sl 10 (y1.expr.kids.map cGExpr)), (.sl 6 (y1.expr.sub.map cGQuery)), (.s (bs y1.as_))])) :: (18, (.d (.i .i64 x5))) :: (17, (.d (.sl 13 (p0.map cGItem)))) :: (14, (.d (.b (decide (x5 < (p0.length : Int)))))) :: (13, (.d (.i .i64 (p0.length : Int)))) :: (12, (.d (.sl 13 (p0.map cGItem)))) :: (11, (.d (.i .i64 x5))) :: (stwEqItemS_L0 p0 p1 x5).env, (stwEqItemS_L0 p0 p1 x5).bx⟩) (by kernel_rfl) ?_
      refine dcall_step (m := F_wEqItem y1 y2) (args := [(vGItem y1), (vGItem y2)]) (v' := (fun y => (.d (.b y)))) h (OK_wEqItem y1 y2) (by kernel_rfl) (by kernel_rfl) (fun _ => rfl) ?_
      clear h; intro y3 h
      refine dsts_ok 1 (s' := ⟨(26, (.d (.b (!y3)))) :: (25, (.d (.b y3))) :: (24, (vGItem y2)) :: (23, (.rp [(.b y2.star), (.s (bs y2.qual)), (.i .i64 y2.expr.kind), (.i .i64 y2.expr.op), (.b y2.expr.not_), (.i .i64 y2.expr.value.kind), (.i .i64 y2.expr.value.num), (.s (bs y2.expr.value.text)), (.s (bs y2.expr.qual)), (.s (bs y2.expr.name)), (.sl 10 (y2.expr.kids.map cGExpr)), (.sl 6 (y2.expr.sub.map cGQuery)), (.s (bs y2.as_))])) :: (22, (.d (.i .i64 x5))) :: (21, (.d (.sl 13 (p1.map cGItem)))) :: (20, (vGItem y1)) :: (19, (.rp [(.b y1.star), (.s (bs y1.qual)), (.i .i64 y1.expr.kind), (.i .i64 y1.expr.op), (.b y1.expr.not_), (.i .i64 y1.expr.value.kind), (.i .i64 y1.expr.value.num), (.s (bs y1.expr.value.text)), (.s (bs y1.expr.qual)), (.s (bs y1.expr.name)), (.sl 10 (y1.expr.kids.map cGExpr)), (.sl 6 (y1.expr.sub.map cGQuery)), (.s (bs y1.as_))])) :: (18, (.d (.i .i64 x5))) :: (17, (.d (.sl 13 (p0.map cGItem)))) :: (14, (.d (.b (decide (x5 < (p0.length : Int)))))) :: (13, (.d (.i .i64 (p0.length : Int)))) :: (12, (.d (.sl 13 (p0.map cGItem)))) :: (11, (.d (.i .i64 x5))) :: (stwEqItemS_L0 p0 p1 x5).env, (stwEqItemS_L0 p0 p1 x5).bx⟩) (by kernel_rfl) ?_
      refine dnil_in (by kernel_rfl) (by kernel_rfl) ?_
      refine next_in ?_
      refine cond_step h (by kernel_rfl) ?_ ?_
      · clear h; intro h
        refine seq_in ?_
        refine ops_in ?_
        refine sts_ok 1 (s' := ⟨(4, (.d (.b false))) :: (26, (.d (.b (!y3)))) :: (25, (.d (.b y3))) :: (24, (vGItem y2)) :: (23, (.rp [(.b y2.star), (.s (bs y2.qual)), (.i .i64 y2.expr.kind), (.i .i64 y2.expr.op), (.b y2.expr.not_), (.i .i64 y2.expr.value.kind), (.i .i64 y2.expr.value.num), (.s (bs y2.expr.value.text)), (.s (bs y2.expr.qual)), (.s (bs y2.expr.name)), (.sl 10 (y2.expr.kids.map cGExpr)), (.sl 6 (y2.expr.sub.map cGQuery)), (.s (bs y2.as_))])) :: (22, (.d (.i .i64 x5))) :: (21, (.d (.sl 13 (p1.map cGItem)))) :: (20, (vGItem y1)) :: (19, (.rp [(.b y1.star), (.s (bs y1.qual)), (.i .i64 y1.expr.kind), (.i .i64 y1.expr.op), (.b y1.expr.not_), (.i .i64 y1.expr.value.kind), (.i .i64 y1.expr.value.num), (.s (bs y1.expr.value.text)), (.s (bs y1.expr.qual)), (.s (bs y1.expr.name)), (.sl 10 (y1.expr.kids.map cGExpr)), (.sl 6 (y1.expr.sub.map cGQuery)), (.s (bs y1.as_))])) :: (18, (.d (.i .i64 x5))) :: (17, (.d (.sl 13 (p0.map cGItem)))) :: (14, (.d (.b (decide (x5 < (p0.length : Int)))))) :: (13, (.d (.i .i64 (p0.length : Int)))) :: (12, (.d (.sl 13 (p0.map cGItem)))) :: (11, (.d (.i .i64 x5))) :: (stwEqItemS_L0 p0 p1 x5).env, (stwEqItemS_L0 p0 p1 x5).bx⟩) (by kernel_rfl) ?_
        refine nil_in ?_
        refine next_in ?_
        refine ret_in ?_
        refine blockK_ret ?_
        refine thenK_ret ?_
        refine thenK_ret ?_
        refine blockK_ret ?_
        refine thenK_ret ?_
        have h := Option.some.inj h; subst h
        exact ret1_step (v := (.d (.b false))) (by kernel_rfl) (by kernel_rfl) (by kernel_rfl)
      · clear h; intro h
        refine skip_in ?_
        refine blockK_norm ?_
        refine next_in ?_
        refine ops_in ?_
        refine sts_ok 3 (s' := ⟨(5, (.d (.i .i64 (IntKind.wrap .i64 (x5 + 1))))) :: (16, (.d (.i .i64 (IntKind.wrap .i64 (x5 + 1))))) :: (15, (.d (.i .i64 x5))) :: (26, (.d (.b (!y3)))) :: (25, (.d (.b y3))) :: (24, (vGItem y2)) :: (23, (.rp [(.b y2.star), (.s (bs y2.qual)), (.i .i64 y2.expr.kind), (.i .i64 y2.expr.op), (.b y2.expr.not_), (.i .i64 y2.expr.value.kind), (.i .i64 y2.expr.value.num), (.s (bs y2.expr.value.text)), (.s (bs y2.expr.qual)), (.s (bs y2.expr.name)), (.sl 10 (y2.expr.kids.map cGExpr)), (.sl 6 (y2.expr.sub.map cGQuery)), (.s (bs y2.as_))])) :: (22, (.d (.i .i64 x5))) :: (21, (.d (.sl 13 (p1.map cGItem)))) :: (20, (vGItem y1)) :: (19, (.rp [(.b y1.star), (.s (bs y1.qual)), (.i .i64 y1.expr.kind), (.i .i64 y1.expr.op), (.b y1.expr.not_), (.i .i64 y1.expr.value.kind), (.i .i64 y1.expr.value.num), (.s (bs y1.expr.value.text)), (.s (bs y1.expr.qual)), (.s (bs y1.expr.name)), (.sl 10 (y1.expr.kids.map cGExpr)), (.sl 6 (y1.expr.sub.map cGQuery)), (.s (bs y1.as_))])) :: (18, (.d (.i .i64 x5))) :: (17, (.d (.sl 13 (p0.map cGItem)))) :: (14, (.d (.b (decide (x5 < (p0.length : Int)))))) :: (13, (.d (.i .i64 (p0.length : Int)))) :: (12, (.d (.sl 13 (p0.map cGItem)))) :: (11, (.d (.i .i64 x5))) :: (stwEqItemS_L0 p0 p1 x5).env, (stwEqItemS_L0 p0 p1 x5).bx⟩) (by kernel_rfl) ?_
        refine nil_in ?_
        exact loop_back (s' := stwEqItemS_L0 p0 p1 (IntKind.wrap .i64 (x5 + 1))) (wk_ren [] (by kernel_rfl) (er_cons (vr_same (by kernel_rfl) (by kernel_rfl)) (er_cons (vr_same (by kernel_rfl) (by kernel_rfl)) (er_cons (vr_same (by kernel_rfl) (by kernel_rfl)) (er_nil)))) (br_nil)) (OK_wEqItemS_L0 p0 p1 (IntKind.wrap .i64 (x5 + 1)) _ h)
    · clear h; intro h
      refine exit_in ?_
      refine thenK_exit ?_
      refine thenK_exit ?_
      refine blockK_here ?_
      refine next_in ?_
      refine seq_in ?_
      refine ops_in ?_
      refine sts_ok 1 (s' := ⟨(4, (.d (.b true))) :: (14, (.d (.b (decide (x5 < (p0.length : Int)))))) :: (13, (.d (.i .i64 (p0.length : Int)))) :: (12, (.d (.sl 13 (p0.map cGItem)))) :: (11, (.d (.i .i64 x5))) :: (stwEqItemS_L0 p0 p1 x5).env, (stwEqItemS_L0 p0 p1 x5).bx⟩) (by kernel_rfl) ?_
      refine nil_in ?_
      refine next_in ?_
      refine ret_in ?_
      have h := Option.some.inj h; subst h
      exact ret1_step (v := (.d (.b true))) (by kernel_rfl) (by kernel_rfl) (by kernel_rfl)
  · intro F_wEqExpr OK_wEqExpr p0 p1 r h
    refine acalls_of_fn trwEqItem (Nat.le_of_ble_eq_true rfl) (by simp) ?_
    show avc Try.prog acwEqItem (qwEqItem _) ⟨[(0, (vGItem p0)), (1, (vGItem p1))], []⟩
    delta acwEqItem
    refine seq_in ?_
    refine ops_in ?_
    refine sts_ok 3 (s' := ⟨[(4, (.d (.b false))), (3, (.ptr 3 0)), (2, (.ptr 2 0)), (0, (vGItem p0)), (1, (vGItem p1))], [(3, [(.d (.b p1.star)), (.d (.s (bs p1.qual))), (.d (.i .i64 p1.expr.kind)), (.d (.i .i64 p1.expr.op)), (.d (.b p1.expr.not_)), (.d (.i .i64 p1.expr.value.kind)), (.d (.i .i64 p1.expr.value.num)), (.d (.s (bs p1.expr.value.text))), (.d (.s (bs p1.expr.qual))), (.d (.s (bs p1.expr.name))), (.d (.sl 10 (p1.expr.kids.map cGExpr))), (.d (.sl 6 (p1.expr.sub.map cGQuery))), (.d (.s (bs p1.as_)))]), (2, [(.d (.b p0.star)), (.d (.s (bs p0.qual))), (.d (.i .i64 p0.expr.kind)), (.d (.i .i64 p0.expr.op)), (.d (.b p0.expr.not_)), (.d (.i .i64 p0.expr.value.kind)), (.d (.i .i64 p0.expr.value.num)), (.d (.s (bs p0.expr.value.text))), (.d (.s (bs p0.expr.qual))), (.d (.s (bs p0.expr.name))), (.d (.sl 10 (p0.expr.kids.map cGExpr))), (.d (.sl 6 (p0.expr.sub.map cGQuery))), (.d (.s (bs p0.as_)))])]⟩) (by kernel_rfl) ?_
    refine nil_in ?_
    refine next_in ?_
    refine seq_in ?_
    refine seq_in ?_
    refine ops_in ?_
    refine sts_ok 5 (s' := ⟨[(9, (.d (.b (!(p0.star == p1.star))))), (8, (.d (.b p1.star))), (7, (.ptr 3 0)), (6, (.d (.b p0.star))), (5, (.ptr 2 0)), (4, (.d (.b false))), (3, (.ptr 3 0)), (2, (.ptr 2 0)), (0, (vGItem p0)), (1, (vGItem p1))], [(3, [(.d (.b p1.star)), (.d (.s (bs p1.qual))), (.d (.i .i64 p1.expr.kind)), (.d (.i .i64 p1.expr.op)), (.d (.b p1.expr.not_)), (.d (.i .i64 p1.expr.value.kind)), (.d (.i .i64 p1.expr.value.num)), (.d (.s (bs p1.expr.value.text))), (.d (.s (bs p1.expr.qual))), (.d (.s (bs p1.expr.name))), (.d (.sl 10 (p1.expr.kids.map cGExpr))), (.d (.sl 6 (p1.expr.sub.map cGQuery))), (.d (.s (bs p1.as_)))]), (2, [(.d (.b p0.star)), (.d (.s (bs p0.qual))), (.d (.i .i64 p0.expr.kind)), (.d (.i .i64 p0.expr.op)), (.d (.b p0.expr.not_)), (.d (.i .i64 p0.expr.value.kind)), (.d (.i .i64 p0.expr.value.num)), (.d (.s (bs p0.expr.value.text))), (.d (.s (bs p0.expr.qual))), (.d (.s (bs p0.expr.name))), (.d (.sl 10 (p0.expr.kids.map cGExpr))), (.d (.sl 6 (p0.expr.sub.map cGQuery))), (.d (.s (bs p0.as_)))])]⟩) (by kernel_rfl) ?_
    refine nil_in ?_
    refine next_in ?_
    refine cond_step h (by kernel_rfl) ?_ ?_
    · clear h; intro h
      refine seq_in ?_
      refine ops_in ?_
      refine sts_ok 1 (s' := ⟨[(4, (.d (.b false))), (9, (.d (.b (!(p0.star == p1.star))))), (8, (.d (.b p1.star))), (7, (.ptr 3 0)), (6, (.d (.b p0.star))), (5, (.ptr 2 0)), (4, (.d (.b false))), (3, (.ptr 3 0)), (2, (.ptr 2 0)), (0, (vGItem p0)), (1, (vGItem p1))], [(3, [(.d (.b p1.star)), (.d (.s (bs p1.qual))), (.d (.i .i64 p1.expr.kind)), (.d (.i .i64 p1.expr.op)), (.d (.b p1.expr.not_)), (.d (.i .i64 p1.expr.value.kind)), (.d (.i .i64 p1.expr.value.num)), (.d (.s (bs p1.expr.value.text))), (.d (.s (bs p1.expr.qual))), (.d (.s (bs p1.expr.name))), (.d (.sl 10 (p1.expr.kids.map cGExpr))), (.d (.sl 6 (p1.expr.sub.map cGQuery))), (.d (.s (bs p1.as_)))]), (2, [(.d (.b p0.star)), (.d (.s (bs p0.qual))), (.d (.i .i64 p0.expr.kind)), (.d (.i .i64 p0.expr.op)), (.d (.b p0.expr.not_)), (.d (.i .i64 p0.expr.value.kind)), (.d (.i .i64 p0.expr.value.num)), (.d (.s (bs p0.expr.value.text))), (.d (.s (bs p0.expr.qual))), (.d (.s (bs p0.expr.name))), (.d (.sl 10 (p0.expr.kids.map cGExpr))), (.d (.sl 6 (p0.expr.sub.map cGQuery))), (.d (.s (bs p0.as_)))])]⟩) (by kernel_rfl) ?_
      refine nil_in ?_
      refine next_in ?_
      refine ret_in ?_
      refine thenK_ret ?_
      have h := Option.some.inj h; subst h
      exact ret1_step (v := (.d (.b false))) (by kernel_rfl) (by kernel_rfl) (by kernel_rfl)
    · clear h; intro h
      refine skip_in ?_
      refine next_in ?_
      refine seq_in ?_
      refine seq_in ?_
      refine ops_in ?_
      refine sts_ok 5 (s' := ⟨[(14, (.d (.b (!decide (p0.qual = p1.qual))))), (13, (.d (.s (bs p1.qual)))), (12, (.ptr 3 1)), (11, (.d (.s (bs p0.qual)))), (10, (.ptr 2 1)), (9, (.d (.b (!(p0.star == p1.star))))), (8, (.d (.b p1.star))), (7, (.ptr 3 0)), (6, (.d (.b p0.star))), (5, (.ptr 2 0)), (4, (.d (.b false))), (3, (.ptr 3 0)), (2, (.ptr 2 0)), (0, (vGItem p0)), (1, (vGItem p1))], [(3, [(.d (.b p1.star)), (.d (.s (bs p1.qual))), (.d (.i .i64 p1.expr.kind)), (.d (.i .i64 p1.expr.op)), (.d (.b p1.expr.not_)), (.d (.i .i64 p1.expr.value.kind)), (.d (.i .i64 p1.expr.value.num)), (.d (.s (bs p1.expr.value.text))), (.d (.s (bs p1.expr.qual))), (.d (.s (bs p1.expr.name))), (.d (.sl 10 (p1.expr.kids.map cGExpr))), (.d (.sl 6 (p1.expr.sub.map cGQuery))), (.d (.s (bs p1.as_)))]), (2, [(.d (.b p0.star)), (.d (.s (bs p0.qual))), (.d (.i .i64 p0.expr.kind)), (.d (.i .i64 p0.expr.op)), (.d (.b p0.expr.not_)), (.d (.i .i64 p0.expr.value.kind)), (.d (.i .i64 p0.expr.value.num)), (.d (.s (bs p0.expr.value.text))), (.d (.s (bs p0.expr.qual))), (.d (.s (bs p0.expr.name))), (.d (.sl 10 (p0.expr.kids.map cGExpr))), (.d (.sl 6 (p0.expr.sub.map cGQuery))), (.d (.s (bs p0.as_)))])]⟩) (by kernel_rfl) ?_
      refine nil_in ?_
      refine next_in ?_
      refine cond_step h (by kernel_rfl) ?_ ?_
      · clear h; intro h
        refine seq_in ?_
        refine ops_in ?_
        refine sts_ok 1 (s' := ⟨[(4, (.d (.b false))), (14, (.d (.b (!decide (p0.qual = p1.qual))))), (13, (.d (.s (bs p1.qual)))), (12, (.ptr 3 1)), (11, (.d (.s (bs p0.qual)))), (10, (.ptr 2 1)), (9, (.d (.b (!(p0.star == p1.star))))), (8, (.d (.b p1.star))), (7, (.ptr 3 0)), (6, (.d (.b p0.star))), (5, (.ptr 2 0)), (4, (.d (.b false))), (3, (.ptr 3 0)), (2, (.ptr 2 0)), (0, (vGItem p0)), (1, (vGItem p1))], [(3, [(.d (.b p1.star)), (.d (.s (bs p1.qual))), (.d (.i .i64 p1.expr.kind)), (.d (.i .i64 p1.expr.op)), (.d (.b p1.expr.not_)), (.d (.i .i64 p1.expr.value.kind)), (.d (.i .i64 p1.expr.value.num)), (.d (.s (bs p1.expr.value.text))), (.d (.s (bs p1.expr.qual))), (.d (.s (bs p1.expr.name))), (.d (.sl 10 (p1.expr.kids.map cGExpr))), (.d (.sl 6 (p1.expr.sub.map cGQuery))), (.d (.s (bs p1.as_)))]), (2, [(.d (.b p0.star)), (.d (.s (bs p0.qual))), (.d (.i .i64 p0.expr.kind)), (.d (.i .i64 p0.expr.op)), (.d (.b p0.expr.not_)), (.d (.i .i64 p0.expr.value.kind)), (.d (.i .i64 p0.expr.value.num)), (.d (.s (bs p0.expr.value.text))), (.d (.s (bs p0.expr.qual))), (.d (.s (bs p0.expr.name))), (.d (.sl 10 (p0.expr.kids.map cGExpr))), (.d (.sl 6 (p0.expr.sub.map cGQuery))), (.d (.s (bs p0.as_)))])]⟩) (by kernel_rfl) ?_
        refine nil_in ?_
        refine next_in ?_
        refine ret_in ?_
        refine thenK_ret ?_
        have h := Option.some.inj h; subst h
        exact ret1_step (v := (.d (.b false))) (by kernel_rfl) (by kernel_rfl) (by kernel_rfl)
      · clear h; intro h
        refine skip_in ?_
        refine next_in ?_
        refine seq_in ?_
        refine seq_in ?_
        refine ops_in ?_
        refine sts_ok 4 (s' := ⟨[(18, (vGExpr p1.expr)), (17, (.ptr 3 2)), (16, (vGExpr p0.expr)), (15, (.ptr 2 2)), (14, (.d (.b (!decide (p0.qual = p1.qual))))), (13, (.d (.s (bs p1.qual)))), (12, (.ptr 3 1)), (11, (.d (.s (bs p0.qual)))), (10, (.ptr 2 1)), (9, (.d (.b (!(p0.star == p1.star))))), (8, (.d (.b p1.star))), (7, (.ptr 3 0)), (6, (.d (.b p0.star))), (5, (.ptr 2 0)), (4, (.d (.b false))), (3, (.ptr 3 0)), (2, (.ptr 2 0)), (0, (vGItem p0)), (1, (vGItem p1))], [(3, [(.d (.b p1.star)), (.d (.s (bs p1.qual))), (.d (.i .i64 p1.expr.kind)), (.d (.i .i64 p1.expr.op)), (.d (.b p1.expr.not_)), (.d (.i .i64 p1.expr.value.kind)), (.d (.i .i64 p1.expr.value.num)), (.d (.s (bs p1.expr.value.text))), (.d (.s (bs p1.expr.qual))), (.d (.s (bs p1.expr.name))), (.d (.sl 10 (p1.expr.kids.map cGExpr))), (.d (.sl 6 (p1.expr.sub.map cGQuery))), (.d (.s (bs p1.as_)))]), (2, [(.d (.b p0.star)), (.d (.s (bs p0.qual))), (.d (.i .i64 p0.expr.kind)), (.d (.i .i64 p0.expr.op)), (.d (.b p0.expr.not_)), (.d (.i .i64 p0.expr.value.kind)), (.d (.i .i64 p0.expr.value.num)), (.d (.s (bs p0.expr.value.text))), (.d (.s (bs p0.expr.qual))), (.d (.s (bs p0.expr.name))), (.d (.sl 10 (p0.expr.kids.map cGExpr))), (.d (.sl 6 (p0.expr.sub.map cGQuery))), (.d (.s (bs p0.as_)))])]⟩) (by kernel_rfl) ?_
        refine call_step (m := F_wEqExpr p0.expr p1.expr) (args := [(vGExpr p0.expr), (vGExpr p1.expr)]) (v' := (fun y => (.d (.b y)))) h (OK_wEqExpr p0.expr p1.expr) (by kernel_rfl) (by kernel_rfl) (fun _ => rfl) ?_
        clear h; intro y1 h
        refine sts_ok 1 (s' := ⟨[(20, (.d (.b (!y1)))), (19, (.d (.b y1))), (18, (vGExpr p1.expr)), (17, (.ptr 3 2)), (16, (vGExpr p0.expr)), (15, (.ptr 2 2)), (14, (.d (.b (!decide (p0.qual = p1.qual))))), (13, (.d (.s (bs p1.qual)))), (12, (.ptr 3 1)), (11, (.d (.s (bs p0.qual)))), (10, (.ptr 2 1)), (9, (.d (.b (!(p0.star == p1.star))))), (8, (.d (.b p1.star))), (7, (.ptr 3 0)), (6, (.d (.b p0.star))), (5, (.ptr 2 0)), (4, (.d (.b false))), (3, (.ptr 3 0)), (2, (.ptr 2 0)), (0, (vGItem p0)), (1, (vGItem p1))], [(3, [(.d (.b p1.star)), (.d (.s (bs p1.qual))), (.d (.i .i64 p1.expr.kind)), (.d (.i .i64 p1.expr.op)), (.d (.b p1.expr.not_)), (.d (.i .i64 p1.expr.value.kind)), (.d (.i .i64 p1.expr.value.num)), (.d (.s (bs p1.expr.value.text))), (.d (.s (bs p1.expr.qual))), (.d (.s (bs p1.expr.name))), (.d (.sl 10 (p1.expr.kids.map cGExpr))), (.d (.sl 6 (p1.expr.sub.map cGQuery))), (.d (.s (bs p1.as_)))]), (2, [(.d (.b p0.star)), (.d (.s (bs p0.qual))), (.d (.i .i64 p0.expr.kind)), (.d (.i .i64 p0.expr.op)), (.d (.b p0.expr.not_)), (.d (.i .i64 p0.expr.value.kind)), (.d (.i .i64 p0.expr.value.num)), (.d (.s (bs p0.expr.value.text))), (.d (.s (bs p0.expr.qual))), (.d (.s (bs p0.expr.name))), (.d (.sl 10 (p0.expr.kids.map cGExpr))), (.d (.sl 6 (p0.expr.sub.map cGQuery))), (.d (.s (bs p0.as_)))])]⟩) (by kernel_rfl) ?_
        refine nil_in ?_
        refine next_in ?_
        refine cond_step h (by kernel_rfl) ?_ ?_
        · clear h; intro h
          refine seq_in ?_
          refine ops_in ?_
          refine sts_ok 1 (s' := ⟨[(4, (.d (.b false))), (20, (.d (.b (!y1)))), (19, (.d (.b y1))), (18, (vGExpr p1.expr)), (17, (.ptr 3 2)), (16, (vGExpr p0.expr)), (15, (.ptr 2 2)), (14, (.d (.b (!decide (p0.qual = p1.qual))))), (13, (.d (.s (bs p1.qual)))), (12, (.ptr 3 1)), (11, (.d (.s (bs p0.qual)))), (10, (.ptr 2 1)), (9, (.d (.b (!(p0.star == p1.star))))), (8, (.d (.b p1.star))), (7, (.ptr 3 0)), (6, (.d (.b p0.star))), (5, (.ptr 2 0)), (4, (.d (.b false))), (3, (.ptr 3 0)), (2, (.ptr 2 0)), (0, (vGItem p0)), (1, (vGItem p1))], [(3, [(.d (.b p1.star)), (.d (.s (bs p1.qual))), (.d (.i .i64 p1.expr.kind)), (.d (.i .i64 p1.expr.op)), (.d (.b p1.expr.not_)), (.d (.i .i64 p1.expr.value.kind)), (.d (.i .i64 p1.expr.value.num)), (.d (.s (bs p1.expr.value.text))), (.d (.s (bs p1.expr.qual))), (.d (.s (bs p1.expr.name))), (.d (.sl 10 (p1.expr.kids.map cGExpr))), (.d (.sl 6 (p1.expr.sub.map cGQuery))), (.d (.s (bs p1.as_)))]), (2, [(.d (.b p0.star)), (.d (.s (bs p0.qual))), (.d (.i .i64 p0.expr.kind)), (.d (.i .i64 p0.expr.op)), (.d (.b p0.expr.not_)), (.d (.i .i64 p0.expr.value.kind)), (.d (.i .i64 p0.expr.value.num)), (.d (.s (bs p0.expr.value.text))), (.d (.s (bs p0.expr.qual))), (.d (.s (bs p0.expr.name))), (.d (.sl 10 (p0.expr.kids.map cGExpr))), (.d (.sl 6 (p0.expr.sub.map cGQuery))), (.d (.s (bs p0.as_)))])]⟩) (by kernel_rfl) ?_
          refine nil_in ?_
          refine next_in ?_
          refine ret_in ?_
          refine thenK_ret ?_
          have h := Option.some.inj h; subst h
          exact ret1_step (v := (.d (.b false))) (by kernel_rfl) (by kernel_rfl) (by kernel_rfl)
        · clear h; intro h
          refine skip_in ?_
          refine next_in ?_
          refine seq_in ?_
          refine seq_in ?_
          refine ops_in ?_
          refine sts_ok 5 (s' := ⟨[(25, (.d (.b (!decide (p0.as_ = p1.as_))))), (24, (.d (.s (bs p1.as_)))), (23, (.ptr 3 12)), (22, (.d (.s (bs p0.as_)))), (21, (.ptr 2 12)), (20, (.d (.b (!y1)))), (19, (.d (.b y1))), (18, (vGExpr p1.expr)), (17, (.ptr 3 2)), (16, (vGExpr p0.expr)), (15, (.ptr 2 2)), (14, (.d (.b (!decide (p0.qual = p1.qual))))), (13, (.d (.s (bs p1.qual)))), (12, (.ptr 3 1)), (11, (.d (.s (bs p0.qual)))), (10, (.ptr 2 1)), (9, (.d (.b (!(p0.star == p1.star))))), (8, (.d (.b p1.star))), (7, (.ptr 3 0)), (6, (.d (.b p0.star))), (5, (.ptr 2 0)), (4, (.d (.b false))), (3, (.ptr 3 0)), (2, (.ptr 2 0)), (0, (vGItem p0)), (1, (vGItem p1))], [(3, [(.d (.b p1.star)), (.d (.s (bs p1.qual))), (.d (.i .i64 p1.expr.kind)), (.d (.i .i64 p1.expr.op)), (.d (.b p1.expr.not_)), (.d (.i .i64 p1.expr.value.kind)), (.d (.i .i64 p1.expr.value.num)), (.d (.s (bs p1.expr.value.text))), (.d (.s (bs p1.expr.qual))), (.d (.s (bs p1.expr.name))), (.d (.sl 10 (p1.expr.kids.map cGExpr))), (.d (.sl 6 (p1.expr.sub.map cGQuery))), (.d (.s (bs p1.as_)))]), (2, [(.d (.b p0.star)), (.d (.s (bs p0.qual))), (.d (.i .i64 p0.expr.kind)), (.d (.i .i64 p0.expr.op)), (.d (.b p0.expr.not_)), (.d (.i .i64 p0.expr.value.kind)), (.d (.i .i64 p0.expr.value.num)), (.d (.s (bs p0.expr.value.text))), (.d (.s (bs p0.expr.qual))), (.d (.s (bs p0.expr.name))), (.d (.sl 10 (p0.expr.kids.map cGExpr))), (.d (.sl 6 (p0.expr.sub.map cGQuery))), (.d (.s (bs p0.as_)))])]⟩) (by kernel_rfl) ?_
          refine nil_in ?_
          refine next_in ?_
          refine cond_step h (by kernel_rfl) ?_ ?_
          · clear h; intro h
            refine seq_in ?_
            refine ops_in ?_
            refine sts_ok 1 (s' := ⟨[(4, (.d (.b false))), (25, (.d (.b (!decide (p0.as_ = p1.as_))))), (24, (.d (.s (bs p1.as_)))), (23, (.ptr 3 12)), (22, (.d (.s (bs p0.as_)))), (21, (.ptr 2 12)), (20, (.d (.b (!y1)))), (19, (.d (.b y1))), (18, (vGExpr p1.expr)), (17, (.ptr 3 2)), (16, (vGExpr p0.expr)), (15, (.ptr 2 2)), (14, (.d (.b (!decide (p0.qual = p1.qual))))), (13, (.d (.s (bs p1.qual)))), (12, (.ptr 3 1)), (11, (.d (.s (bs p0.qual)))), (10, (.ptr 2 1)), (9, (.d (.b (!(p0.star == p1.star))))), (8, (.d (.b p1.star))), (7, (.ptr 3 0)), (6, (.d (.b p0.star))), (5, (.ptr 2 0)), (4, (.d (.b false))), (3, (.ptr 3 0)), (2, (.ptr 2 0)), (0, (vGItem p0)), (1, (vGItem p1))], [(3, [(.d (.b p1.star)), (.d (.s (bs p1.qual))), (.d (.i .i64 p1.expr.kind)), (.d (.i .i64 p1.expr.op)), (.d (.b p1.expr.not_)), (.d (.i .i64 p1.expr.value.kind)), (.d (.i .i64 p1.expr.value.num)), (.d (.s (bs p1.expr.value.text))), (.d (.s (bs p1.expr.qual))), (.d (.s (bs p1.expr.name))), (.d (.sl 10 (p1.expr.kids.map cGExpr))), (.d (.sl 6 (p1.expr.sub.map cGQuery))), (.d (.s (bs p1.as_)))]), (2, [(.d (.b p0.star)), (.d (.s (bs p0.qual))), (.d (.i .i64 p0.expr.kind)), (.d (.i .i64 p0.expr.op)), (.d (.b p0.expr.not_)), (.d (.i .i64 p0.expr.value.kind)), (.d (.i .i64 p0.expr.value.num)), (.d (.s (bs p0.expr.value.text))), (.d (.s (bs p0.expr.qual))), (.d (.s (bs p0.expr.name))), (.d (.sl 10 (p0.expr.kids.map cGExpr))), (.d (.sl 6 (p0.expr.sub.map cGQuery))), (.d (.s (bs p0.as_)))])]⟩) (by kernel_rfl) ?_
            refine nil_in ?_
            refine next_in ?_
            refine ret_in ?_
            refine thenK_ret ?_
            have h := Option.some.inj h; subst h
            exact ret1_step (v := (.d (.b false))) (by kernel_rfl) (by kernel_rfl) (by kernel_rfl)
          · clear h; intro h
            refine skip_in ?_
            refine next_in ?_
            refine seq_in ?_
            refine ops_in ?_
            refine sts_ok 1 (s' := ⟨[(4, (.d (.b true))), (25, (.d (.b (!decide (p0.as_ = p1.as_))))), (24, (.d (.s (bs p1.as_)))), (23, (.ptr 3 12)), (22, (.d (.s (bs p0.as_)))), (21, (.ptr 2 12)), (20, (.d (.b (!y1)))), (19, (.d (.b y1))), (18, (vGExpr p1.expr)), (17, (.ptr 3 2)), (16, (vGExpr p0.expr)), (15, (.ptr 2 2)), (14, (.d (.b (!decide (p0.qual = p1.qual))))), (13, (.d (.s (bs p1.qual)))), (12, (.ptr 3 1)), (11, (.d (.s (bs p0.qual)))), (10, (.ptr 2 1)), (9, (.d (.b (!(p0.star == p1.star))))), (8, (.d (.b p1.star))), (7, (.ptr 3 0)), (6, (.d (.b p0.star))), (5, (.ptr 2 0)), (4, (.d (.b false))), (3, (.ptr 3 0)), (2, (.ptr 2 0)), (0, (vGItem p0)), (1, (vGItem p1))], [(3, [(.d (.b p1.star)), (.d (.s (bs p1.qual))), (.d (.i .i64 p1.expr.kind)), (.d (.i .i64 p1.expr.op)), (.d (.b p1.expr.not_)), (.d (.i .i64 p1.expr.value.kind)), (.d (.i .i64 p1.expr.value.num)), (.d (.s (bs p1.expr.value.text))), (.d (.s (bs p1.expr.qual))), (.d (.s (bs p1.expr.name))), (.d (.sl 10 (p1.expr.kids.map cGExpr))), (.d (.sl 6 (p1.expr.sub.map cGQuery))), (.d (.s (bs p1.as_)))]), (2, [(.d (.b p0.star)), (.d (.s (bs p0.qual))), (.d (.i .i64 p0.expr.kind)), (.d (.i .i64 p0.expr.op)), (.d (.b p0.expr.not_)), (.d (.i .i64 p0.expr.value.kind)), (.d (.i .i64 p0.expr.value.num)), (.d (.s (bs p0.expr.value.text))), (.d (.s (bs p0.expr.qual))), (.d (.s (bs p0.expr.name))), (.d (.sl 10 (p0.expr.kids.map cGExpr))), (.d (.sl 6 (p0.expr.sub.map cGQuery))), (.d (.s (bs p0.as_)))])]⟩) (by kernel_rfl) ?_
            refine nil_in ?_
            refine next_in ?_
            refine ret_in ?_
            have h := Option.some.inj h; subst h
            exact ret1_step (v := (.d (.b true))) (by kernel_rfl) (by kernel_rfl) (by kernel_rfl)
theorem OK_wEqSource (p0 : GSource) (p1 : GSource) : FOk Try.prog 124 [(vGSource p0), (vGSource p1)] (fun y => (.d (.b y))) (wEqSource p0 p1) := fun r h => (OKs_wEqSource).1 p0 p1 r h
theorem OK_wEqExprS (p0 : (List GExpr)) (p1 : (List GExpr)) : FOk Try.prog 51 [(.d (.sl 10 (p0.map cGExpr))), (.d (.sl 10 (p1.map cGExpr)))] (fun y => (.d (.b y))) (wEqExprS p0 p1) := fun r h => (OKs_wEqSource).2.1 p0 p1 r h
theorem OK_wEqExprS_L0 (p0 : (List GExpr)) (p1 : (List GExpr)) (x5 : Int) (r : Bool) (h : wEqExprS_L0 p0 p1 x5 = some r) : avc Try.prog acwEqExprS_L0 (qwEqExprS_1 r) (stwEqExprS_L0 p0 p1 x5) := (OKs_wEqSource).2.2.1 p0 p1 x5 r h
theorem OK_wEqExpr (p0 : GExpr) (p1 : GExpr) : FOk Try.prog 23 [(vGExpr p0), (vGExpr p1)] (fun y => (.d (.b y))) (wEqExpr p0 p1) := fun r h => (OKs_wEqSource).2.2.2.1 p0 p1 r h
theorem OK_wEqQueryS (p0 : (List GQuery)) (p1 : (List GQuery)) : FOk Try.prog 78 [(.d (.sl 6 (p0.map cGQuery))), (.d (.sl 6 (p1.map cGQuery)))] (fun y => (.d (.b y))) (wEqQueryS p0 p1) := fun r h => (OKs_wEqSource).2.2.2.2.1 p0 p1 r h
theorem OK_wEqQueryS_L0 (p0 : (List GQuery)) (p1 : (List GQuery)) (x5 : Int) (r : Bool) (h : wEqQueryS_L0 p0 p1 x5 = some r) : avc Try.prog acwEqQueryS_L0 (qwEqQueryS_1 r) (stwEqQueryS_L0 p0 p1 x5) := (OKs_wEqSource).2.2.2.2.2.1 p0 p1 x5 r h
theorem OK_wEqQuery (p0 : GQuery) (p1 : GQuery) : FOk Try.prog 18 [(vGQuery p0), (vGQuery p1)] (fun y => (.d (.b y))) (wEqQuery p0 p1) := fun r h => (OKs_wEqSource).2.2.2.2.2.2.1 p0 p1 r h
theorem OK_wEqSortKeyS (p0 : (List GSortKey)) (p1 : (List GSortKey)) : FOk Try.prog 69 [(.d (.sl 11 (p0.map cGSortKey))), (.d (.sl 11 (p1.map cGSortKey)))] (fun y => (.d (.b y))) (wEqSortKeyS p0 p1) := fun r h => (OKs_wEqSource).2.2.2.2.2.2.2.1 p0 p1 r h
theorem OK_wEqSortKeyS_L0 (p0 : (List GSortKey)) (p1 : (List GSortKey)) (x5 : Int) (r : Bool) (h : wEqSortKeyS_L0 p0 p1 x5 = some r) : avc Try.prog acwEqSortKeyS_L0 (qwEqSortKeyS_1 r) (stwEqSortKeyS_L0 p0 p1 x5) := (OKs_wEqSource).2.2.2.2.2.2.2.2.1 p0 p1 x5 r h
theorem OK_wEqSortKey (p0 : GSortKey) (p1 : GSortKey) : FOk Try.prog 125 [(vGSortKey p0), (vGSortKey p1)] (fun y => (.d (.b y))) (wEqSortKey p0 p1) := fun r h => (OKs_wEqSource).2.2.2.2.2.2.2.2.2.1 p0 p1 r h
theorem OK_wEqSourceS (p0 : (List GSource)) (p1 : (List GSource)) : FOk Try.prog 68 [(.d (.sl 3 (p0.map cGSource))), (.d (.sl 3 (p1.map cGSource)))] (fun y => (.d (.b y))) (wEqSourceS p0 p1) := fun r h => (OKs_wEqSource).2.2.2.2.2.2.2.2.2.2.1 p0 p1 r h
theorem OK_wEqSourceS_L0 (p0 : (List GSource)) (p1 : (List GSource)) (x5 : Int) (r : Bool) (h : wEqSourceS_L0 p0 p1 x5 = some r) : avc Try.prog acwEqSourceS_L0 (qwEqSourceS_1 r) (stwEqSourceS_L0 p0 p1 x5) := (OKs_wEqSource).2.2.2.2.2.2.2.2.2.2.2.1 p0 p1 x5 r h
theorem OK_wEqItemS (p0 : (List GItem)) (p1 : (List GItem)) : FOk Try.prog 67 [(.d (.sl 13 (p0.map cGItem))), (.d (.sl 13 (p1.map cGItem)))] (fun y => (.d (.b y))) (wEqItemS p0 p1) := fun r h => (OKs_wEqSource).2.2.2.2.2.2.2.2.2.2.2.2.1 p0 p1 r h
theorem OK_wEqItemS_L0 (p0 : (List GItem)) (p1 : (List GItem)) (x5 : Int) (r : Bool) (h : wEqItemS_L0 p0 p1 x5 = some r) : avc Try.prog acwEqItemS_L0 (qwEqItemS_1 r) (stwEqItemS_L0 p0 p1 x5) := (OKs_wEqSource).2.2.2.2.2.2.2.2.2.2.2.2.2.1 p0 p1 x5 r h
theorem OK_wEqItem (p0 : GItem) (p1 : GItem) : FOk Try.prog 123 [(vGItem p0), (vGItem p1)] (fun y => (.d (.b y))) (wEqItem p0 p1) := fun r h => (OKs_wEqSource).2.2.2.2.2.2.2.2.2.2.2.2.2.2 p0 p1 r h
end Go.Proofs.Ytdiknmniclancaa
