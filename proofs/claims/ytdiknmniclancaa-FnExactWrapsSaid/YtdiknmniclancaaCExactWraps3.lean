/- That the code computes these functions (printed by a program). -/
import Derived.Test.YtdiknmniclancaaCExactWraps2
namespace Go.Proofs.Ytdiknmniclancaa
open Go Go.RowKit Go.Ab
theorem OK_wFnExactWraps (p0 : GExpr) : FOk Try.prog 4 [(vGExpr p0)] (fun y => (.d (.b y))) (wFnExactWraps p0) := by
  intro r h
  rw [wFnExactWraps] at h
  refine acalls_of_fn trwFnExactWraps (Nat.le_of_ble_eq_true rfl) (by simp) ?_
  show avc Try.prog acwFnExactWraps (qwFnExactWraps _) ⟨[(0, (vGExpr p0))], []⟩
  delta acwFnExactWraps
  refine seq_in ?_
  refine ops_in ?_
  refine sts_ok 2 (s' := ⟨[(2, (.d (.b false))), (1, (.ptr 1 0)), (0, (vGExpr p0))], [(1, [(.d (.i .i64 p0.kind)), (.d (.i .i64 p0.op)), (.d (.b p0.not_)), (.d (.i .i64 p0.value.kind)), (.d (.i .i64 p0.value.num)), (.d (.s (bs p0.value.text))), (.d (.s (bs p0.qual))), (.d (.s (bs p0.name))), (.d (.sl 10 (p0.kids.map cGExpr))), (.d (.sl 6 (p0.sub.map cGQuery)))])]⟩) (by kernel_rfl) ?_
  refine nil_in ?_
  refine next_in ?_
  refine seq_in ?_
  refine ops_in ?_
  refine sts_ok 1 (s' := ⟨[(3, (.d (.i .i64 1048576))), (2, (.d (.b false))), (1, (.ptr 1 0)), (0, (vGExpr p0))], [(1, [(.d (.i .i64 p0.kind)), (.d (.i .i64 p0.op)), (.d (.b p0.not_)), (.d (.i .i64 p0.value.kind)), (.d (.i .i64 p0.value.num)), (.d (.s (bs p0.value.text))), (.d (.s (bs p0.qual))), (.d (.s (bs p0.name))), (.d (.sl 10 (p0.kids.map cGExpr))), (.d (.sl 6 (p0.sub.map cGQuery)))])]⟩) (by kernel_rfl) ?_
  refine nil_in ?_
  refine next_in ?_
  refine seq_in ?_
  refine ops_in ?_
  refine sts_ok 2 (s' := ⟨[(8, (.d (.i .i64 1048576))), (7, (vGExpr p0)), (3, (.d (.i .i64 1048576))), (2, (.d (.b false))), (1, (.ptr 1 0)), (0, (vGExpr p0))], [(1, [(.d (.i .i64 p0.kind)), (.d (.i .i64 p0.op)), (.d (.b p0.not_)), (.d (.i .i64 p0.value.kind)), (.d (.i .i64 p0.value.num)), (.d (.s (bs p0.value.text))), (.d (.s (bs p0.qual))), (.d (.s (bs p0.name))), (.d (.sl 10 (p0.kids.map cGExpr))), (.d (.sl 6 (p0.sub.map cGQuery)))])]⟩) (by kernel_rfl) ?_
  refine call_step (m := wSzExpr p0 1048576) (args := [(vGExpr p0), (.d (.i .i64 1048576))]) (v' := (fun y => (.d (.i .i64 y)))) h (OK_wSzExpr p0 1048576) (by kernel_rfl) (by kernel_rfl) (fun _ => rfl) ?_
  clear h; intro y1 h
  refine sts_ok 1 (s' := ⟨[(3, (.d (.i .i64 y1))), (9, (.d (.i .i64 y1))), (8, (.d (.i .i64 1048576))), (7, (vGExpr p0)), (3, (.d (.i .i64 1048576))), (2, (.d (.b false))), (1, (.ptr 1 0)), (0, (vGExpr p0))], [(1, [(.d (.i .i64 p0.kind)), (.d (.i .i64 p0.op)), (.d (.b p0.not_)), (.d (.i .i64 p0.value.kind)), (.d (.i .i64 p0.value.num)), (.d (.s (bs p0.value.text))), (.d (.s (bs p0.qual))), (.d (.s (bs p0.name))), (.d (.sl 10 (p0.kids.map cGExpr))), (.d (.sl 6 (p0.sub.map cGQuery)))])]⟩) (by kernel_rfl) ?_
  refine nil_in ?_
  refine next_in ?_
  refine seq_in ?_
  refine seq_in ?_
  refine ops_in ?_
  refine sts_ok 2 (s' := ⟨[(11, (.d (.b (decide (y1 < 0))))), (10, (.d (.i .i64 y1))), (3, (.d (.i .i64 y1))), (9, (.d (.i .i64 y1))), (8, (.d (.i .i64 1048576))), (7, (vGExpr p0)), (3, (.d (.i .i64 1048576))), (2, (.d (.b false))), (1, (.ptr 1 0)), (0, (vGExpr p0))], [(1, [(.d (.i .i64 p0.kind)), (.d (.i .i64 p0.op)), (.d (.b p0.not_)), (.d (.i .i64 p0.value.kind)), (.d (.i .i64 p0.value.num)), (.d (.s (bs p0.value.text))), (.d (.s (bs p0.qual))), (.d (.s (bs p0.name))), (.d (.sl 10 (p0.kids.map cGExpr))), (.d (.sl 6 (p0.sub.map cGQuery)))])]⟩) (by kernel_rfl) ?_
  refine nil_in ?_
  refine next_in ?_
  refine cond_step h (by kernel_rfl) ?_ ?_
  · clear h; intro h
    refine seq_in ?_
    refine ops_in ?_
    refine sts_ok 1 (s' := ⟨[(2, (.d (.b true))), (11, (.d (.b (decide (y1 < 0))))), (10, (.d (.i .i64 y1))), (3, (.d (.i .i64 y1))), (9, (.d (.i .i64 y1))), (8, (.d (.i .i64 1048576))), (7, (vGExpr p0)), (3, (.d (.i .i64 1048576))), (2, (.d (.b false))), (1, (.ptr 1 0)), (0, (vGExpr p0))], [(1, [(.d (.i .i64 p0.kind)), (.d (.i .i64 p0.op)), (.d (.b p0.not_)), (.d (.i .i64 p0.value.kind)), (.d (.i .i64 p0.value.num)), (.d (.s (bs p0.value.text))), (.d (.s (bs p0.qual))), (.d (.s (bs p0.name))), (.d (.sl 10 (p0.kids.map cGExpr))), (.d (.sl 6 (p0.sub.map cGQuery)))])]⟩) (by kernel_rfl) ?_
    refine nil_in ?_
    refine next_in ?_
    refine ret_in ?_
    refine thenK_ret ?_
    have h := Option.some.inj h; subst h
    exact ret1_step (v := (.d (.b true))) (by kernel_rfl) (by kernel_rfl) (by kernel_rfl)
  · clear h; intro h
    refine skip_in ?_
    refine next_in ?_
    refine seq_in ?_
    refine ops_in ?_
    refine sts_ok 1 (s' := ⟨[(12, (vGExpr p0)), (11, (.d (.b (decide (y1 < 0))))), (10, (.d (.i .i64 y1))), (3, (.d (.i .i64 y1))), (9, (.d (.i .i64 y1))), (8, (.d (.i .i64 1048576))), (7, (vGExpr p0)), (3, (.d (.i .i64 1048576))), (2, (.d (.b false))), (1, (.ptr 1 0)), (0, (vGExpr p0))], [(1, [(.d (.i .i64 p0.kind)), (.d (.i .i64 p0.op)), (.d (.b p0.not_)), (.d (.i .i64 p0.value.kind)), (.d (.i .i64 p0.value.num)), (.d (.s (bs p0.value.text))), (.d (.s (bs p0.qual))), (.d (.s (bs p0.name))), (.d (.sl 10 (p0.kids.map cGExpr))), (.d (.sl 6 (p0.sub.map cGQuery)))])]⟩) (by kernel_rfl) ?_
    refine call_step (m := wToExpr p0) (args := [(vGExpr p0)]) (v' := (fun y => (vGExpr y))) h (OK_wToExpr p0) (by kernel_rfl) (by kernel_rfl) (fun _ => rfl) ?_
    clear h; intro y2 h
    refine call_step (m := sWraps y2) (args := [(vGExpr y2)]) (v' := (fun y => (.d (.i .i64 y)))) h (OK_sWraps y2) (by kernel_rfl) (by kernel_rfl) (fun _ => rfl) ?_
    clear h; intro y3 h
    refine sts_ok 1 (s' := ⟨[(4, (.d (.i .i64 y3))), (14, (.d (.i .i64 y3))), (13, (vGExpr y2)), (12, (vGExpr p0)), (11, (.d (.b (decide (y1 < 0))))), (10, (.d (.i .i64 y1))), (3, (.d (.i .i64 y1))), (9, (.d (.i .i64 y1))), (8, (.d (.i .i64 1048576))), (7, (vGExpr p0)), (3, (.d (.i .i64 1048576))), (2, (.d (.b false))), (1, (.ptr 1 0)), (0, (vGExpr p0))], [(1, [(.d (.i .i64 p0.kind)), (.d (.i .i64 p0.op)), (.d (.b p0.not_)), (.d (.i .i64 p0.value.kind)), (.d (.i .i64 p0.value.num)), (.d (.s (bs p0.value.text))), (.d (.s (bs p0.qual))), (.d (.s (bs p0.name))), (.d (.sl 10 (p0.kids.map cGExpr))), (.d (.sl 6 (p0.sub.map cGQuery)))])]⟩) (by kernel_rfl) ?_
    refine nil_in ?_
    refine next_in ?_
    refine seq_in ?_
    refine ops_in ?_
    refine sts_ok 1 (s' := ⟨[(15, (vGExpr p0)), (4, (.d (.i .i64 y3))), (14, (.d (.i .i64 y3))), (13, (vGExpr y2)), (12, (vGExpr p0)), (11, (.d (.b (decide (y1 < 0))))), (10, (.d (.i .i64 y1))), (3, (.d (.i .i64 y1))), (9, (.d (.i .i64 y1))), (8, (.d (.i .i64 1048576))), (7, (vGExpr p0)), (3, (.d (.i .i64 1048576))), (2, (.d (.b false))), (1, (.ptr 1 0)), (0, (vGExpr p0))], [(1, [(.d (.i .i64 p0.kind)), (.d (.i .i64 p0.op)), (.d (.b p0.not_)), (.d (.i .i64 p0.value.kind)), (.d (.i .i64 p0.value.num)), (.d (.s (bs p0.value.text))), (.d (.s (bs p0.qual))), (.d (.s (bs p0.name))), (.d (.sl 10 (p0.kids.map cGExpr))), (.d (.sl 6 (p0.sub.map cGQuery)))])]⟩) (by kernel_rfl) ?_
    refine call_step (m := wToExpr p0) (args := [(vGExpr p0)]) (v' := (fun y => (vGExpr y))) h (OK_wToExpr p0) (by kernel_rfl) (by kernel_rfl) (fun _ => rfl) ?_
    clear h; intro y4 h
    refine sts_ok 2 (s' := ⟨[(5, (.ptr 5 0)), (16, (vGExpr y4)), (15, (vGExpr p0)), (4, (.d (.i .i64 y3))), (14, (.d (.i .i64 y3))), (13, (vGExpr y2)), (12, (vGExpr p0)), (11, (.d (.b (decide (y1 < 0))))), (10, (.d (.i .i64 y1))), (3, (.d (.i .i64 y1))), (9, (.d (.i .i64 y1))), (8, (.d (.i .i64 1048576))), (7, (vGExpr p0)), (3, (.d (.i .i64 1048576))), (2, (.d (.b false))), (1, (.ptr 1 0)), (0, (vGExpr p0))], [(5, [(.d (.i .i64 y4.kind)), (.d (.i .i64 y4.op)), (.d (.b y4.not_)), (.d (.i .i64 y4.value.kind)), (.d (.i .i64 y4.value.num)), (.d (.s (bs y4.value.text))), (.d (.s (bs y4.qual))), (.d (.s (bs y4.name))), (.d (.sl 10 (y4.kids.map cGExpr))), (.d (.sl 6 (y4.sub.map cGQuery)))]), (1, [(.d (.i .i64 p0.kind)), (.d (.i .i64 p0.op)), (.d (.b p0.not_)), (.d (.i .i64 p0.value.kind)), (.d (.i .i64 p0.value.num)), (.d (.s (bs p0.value.text))), (.d (.s (bs p0.qual))), (.d (.s (bs p0.name))), (.d (.sl 10 (p0.kids.map cGExpr))), (.d (.sl 6 (p0.sub.map cGQuery)))])]⟩) (by kernel_rfl) ?_
    refine nil_in ?_
    refine next_in ?_
    refine seq_in ?_
    refine ops_in ?_
    refine sts_ok 1 (s' := ⟨[(17, (vGExpr y4)), (5, (.ptr 5 0)), (16, (vGExpr y4)), (15, (vGExpr p0)), (4, (.d (.i .i64 y3))), (14, (.d (.i .i64 y3))), (13, (vGExpr y2)), (12, (vGExpr p0)), (11, (.d (.b (decide (y1 < 0))))), (10, (.d (.i .i64 y1))), (3, (.d (.i .i64 y1))), (9, (.d (.i .i64 y1))), (8, (.d (.i .i64 1048576))), (7, (vGExpr p0)), (3, (.d (.i .i64 1048576))), (2, (.d (.b false))), (1, (.ptr 1 0)), (0, (vGExpr p0))], [(5, [(.d (.i .i64 y4.kind)), (.d (.i .i64 y4.op)), (.d (.b y4.not_)), (.d (.i .i64 y4.value.kind)), (.d (.i .i64 y4.value.num)), (.d (.s (bs y4.value.text))), (.d (.s (bs y4.qual))), (.d (.s (bs y4.name))), (.d (.sl 10 (y4.kids.map cGExpr))), (.d (.sl 6 (y4.sub.map cGQuery)))]), (1, [(.d (.i .i64 p0.kind)), (.d (.i .i64 p0.op)), (.d (.b p0.not_)), (.d (.i .i64 p0.value.kind)), (.d (.i .i64 p0.value.num)), (.d (.s (bs p0.value.text))), (.d (.s (bs p0.qual))), (.d (.s (bs p0.name))), (.d (.sl 10 (p0.kids.map cGExpr))), (.d (.sl 6 (p0.sub.map cGQuery)))])]⟩) (by kernel_rfl) ?_
    refine call_step (m := iWraps y4) (args := [(vGExpr y4)]) (v' := (fun y => (.d (.i .i64 y)))) h (OK_iWraps y4) (by kernel_rfl) (by kernel_rfl) (fun _ => rfl) ?_
    clear h; intro y5 h
    refine sts_ok 1 (s' := ⟨[(6, (.d (.i .i64 y5))), (18, (.d (.i .i64 y5))), (17, (vGExpr y4)), (5, (.ptr 5 0)), (16, (vGExpr y4)), (15, (vGExpr p0)), (4, (.d (.i .i64 y3))), (14, (.d (.i .i64 y3))), (13, (vGExpr y2)), (12, (vGExpr p0)), (11, (.d (.b (decide (y1 < 0))))), (10, (.d (.i .i64 y1))), (3, (.d (.i .i64 y1))), (9, (.d (.i .i64 y1))), (8, (.d (.i .i64 1048576))), (7, (vGExpr p0)), (3, (.d (.i .i64 1048576))), (2, (.d (.b false))), (1, (.ptr 1 0)), (0, (vGExpr p0))], [(5, [(.d (.i .i64 y4.kind)), (.d (.i .i64 y4.op)), (.d (.b y4.not_)), (.d (.i .i64 y4.value.kind)), (.d (.i .i64 y4.value.num)), (.d (.s (bs y4.value.text))), (.d (.s (bs y4.qual))), (.d (.s (bs y4.name))), (.d (.sl 10 (y4.kids.map cGExpr))), (.d (.sl 6 (y4.sub.map cGQuery)))]), (1, [(.d (.i .i64 p0.kind)), (.d (.i .i64 p0.op)), (.d (.b p0.not_)), (.d (.i .i64 p0.value.kind)), (.d (.i .i64 p0.value.num)), (.d (.s (bs p0.value.text))), (.d (.s (bs p0.qual))), (.d (.s (bs p0.name))), (.d (.sl 10 (p0.kids.map cGExpr))), (.d (.sl 6 (p0.sub.map cGQuery)))])]⟩) (by kernel_rfl) ?_
    refine nil_in ?_
    refine next_in ?_
    refine seq_in ?_
    refine seq_in ?_
    refine ops_in ?_
    refine sts_ok 3 (s' := ⟨[(21, (.d (.b (!decide (y5 = y3))))), (20, (.d (.i .i64 y3))), (19, (.d (.i .i64 y5))), (6, (.d (.i .i64 y5))), (18, (.d (.i .i64 y5))), (17, (vGExpr y4)), (5, (.ptr 5 0)), (16, (vGExpr y4)), (15, (vGExpr p0)), (4, (.d (.i .i64 y3))), (14, (.d (.i .i64 y3))), (13, (vGExpr y2)), (12, (vGExpr p0)), (11, (.d (.b (decide (y1 < 0))))), (10, (.d (.i .i64 y1))), (3, (.d (.i .i64 y1))), (9, (.d (.i .i64 y1))), (8, (.d (.i .i64 1048576))), (7, (vGExpr p0)), (3, (.d (.i .i64 1048576))), (2, (.d (.b false))), (1, (.ptr 1 0)), (0, (vGExpr p0))], [(5, [(.d (.i .i64 y4.kind)), (.d (.i .i64 y4.op)), (.d (.b y4.not_)), (.d (.i .i64 y4.value.kind)), (.d (.i .i64 y4.value.num)), (.d (.s (bs y4.value.text))), (.d (.s (bs y4.qual))), (.d (.s (bs y4.name))), (.d (.sl 10 (y4.kids.map cGExpr))), (.d (.sl 6 (y4.sub.map cGQuery)))]), (1, [(.d (.i .i64 p0.kind)), (.d (.i .i64 p0.op)), (.d (.b p0.not_)), (.d (.i .i64 p0.value.kind)), (.d (.i .i64 p0.value.num)), (.d (.s (bs p0.value.text))), (.d (.s (bs p0.qual))), (.d (.s (bs p0.name))), (.d (.sl 10 (p0.kids.map cGExpr))), (.d (.sl 6 (p0.sub.map cGQuery)))])]⟩) (by kernel_rfl) ?_
    refine nil_in ?_
    refine next_in ?_
    refine cond_step h (by kernel_rfl) ?_ ?_
    · clear h; intro h
      refine seq_in ?_
      refine ops_in ?_
      refine sts_ok 1 (s' := ⟨[(2, (.d (.b false))), (21, (.d (.b (!decide (y5 = y3))))), (20, (.d (.i .i64 y3))), (19, (.d (.i .i64 y5))), (6, (.d (.i .i64 y5))), (18, (.d (.i .i64 y5))), (17, (vGExpr y4)), (5, (.ptr 5 0)), (16, (vGExpr y4)), (15, (vGExpr p0)), (4, (.d (.i .i64 y3))), (14, (.d (.i .i64 y3))), (13, (vGExpr y2)), (12, (vGExpr p0)), (11, (.d (.b (decide (y1 < 0))))), (10, (.d (.i .i64 y1))), (3, (.d (.i .i64 y1))), (9, (.d (.i .i64 y1))), (8, (.d (.i .i64 1048576))), (7, (vGExpr p0)), (3, (.d (.i .i64 1048576))), (2, (.d (.b false))), (1, (.ptr 1 0)), (0, (vGExpr p0))], [(5, [(.d (.i .i64 y4.kind)), (.d (.i .i64 y4.op)), (.d (.b y4.not_)), (.d (.i .i64 y4.value.kind)), (.d (.i .i64 y4.value.num)), (.d (.s (bs y4.value.text))), (.d (.s (bs y4.qual))), (.d (.s (bs y4.name))), (.d (.sl 10 (y4.kids.map cGExpr))), (.d (.sl 6 (y4.sub.map cGQuery)))]), (1, [(.d (.i .i64 p0.kind)), (.d (.i .i64 p0.op)), (.d (.b p0.not_)), (.d (.i .i64 p0.value.kind)), (.d (.i .i64 p0.value.num)), (.d (.s (bs p0.value.text))), (.d (.s (bs p0.qual))), (.d (.s (bs p0.name))), (.d (.sl 10 (p0.kids.map cGExpr))), (.d (.sl 6 (p0.sub.map cGQuery)))])]⟩) (by kernel_rfl) ?_
      refine nil_in ?_
      refine next_in ?_
      refine ret_in ?_
      refine thenK_ret ?_
      have h := Option.some.inj h; subst h
      exact ret1_step (v := (.d (.b false))) (by kernel_rfl) (by kernel_rfl) (by kernel_rfl)
    · clear h; intro h
      refine skip_in ?_
      refine next_in ?_
      refine seq_in ?_
      refine seq_in ?_
      refine dops_in ?_
      refine dsts_ok 2 (s' := ⟨[(23, (vGExpr p0)), (22, (vGExpr y4)), (21, (.d (.b (!decide (y5 = y3))))), (20, (.d (.i .i64 y3))), (19, (.d (.i .i64 y5))), (6, (.d (.i .i64 y5))), (18, (.d (.i .i64 y5))), (17, (vGExpr y4)), (5, (.ptr 5 0)), (16, (vGExpr y4)), (15, (vGExpr p0)), (4, (.d (.i .i64 y3))), (14, (.d (.i .i64 y3))), (13, (vGExpr y2)), (12, (vGExpr p0)), (11, (.d (.b (decide (y1 < 0))))), (10, (.d (.i .i64 y1))), (3, (.d (.i .i64 y1))), (9, (.d (.i .i64 y1))), (8, (.d (.i .i64 1048576))), (7, (vGExpr p0)), (3, (.d (.i .i64 1048576))), (2, (.d (.b false))), (1, (.ptr 1 0)), (0, (vGExpr p0))], [(5, [(.d (.i .i64 y4.kind)), (.d (.i .i64 y4.op)), (.d (.b y4.not_)), (.d (.i .i64 y4.value.kind)), (.d (.i .i64 y4.value.num)), (.d (.s (bs y4.value.text))), (.d (.s (bs y4.qual))), (.d (.s (bs y4.name))), (.d (.sl 10 (y4.kids.map cGExpr))), (.d (.sl 6 (y4.sub.map cGQuery)))]), (1, [(.d (.i .i64 p0.kind)), (.d (.i .i64 p0.op)), (.d (.b p0.not_)), (.d (.i .i64 p0.value.kind)), (.d (.i .i64 p0.value.num)), (.d (.s (bs p0.value.text))), (.d (.s (bs p0.qual))), (.d (.s (bs p0.name))), (.d (.sl 10 (p0.kids.map cGExpr))), (.d (.sl 6 (p0.sub.map cGQuery)))])]⟩) (by kernel_rfl) ?_
      refine dcall_step (m := wToExpr p0) (args := [(vGExpr p0)]) (v' := (fun y => (vGExpr y))) h (OK_wToExpr p0) (by kernel_rfl) (by kernel_rfl) (fun _ => rfl) ?_
      clear h; intro y6 h
      refine dcall_step (m := wEqExpr y4 y6) (args := [(vGExpr y4), (vGExpr y6)]) (v' := (fun y => (.d (.b y)))) h (OK_wEqExpr y4 y6) (by kernel_rfl) (by kernel_rfl) (fun _ => rfl) ?_
      clear h; intro y7 h
      refine dsts_ok 1 (s' := ⟨[(26, (.d (.b (!y7)))), (25, (.d (.b y7))), (24, (vGExpr y6)), (23, (vGExpr p0)), (22, (vGExpr y4)), (21, (.d (.b (!decide (y5 = y3))))), (20, (.d (.i .i64 y3))), (19, (.d (.i .i64 y5))), (6, (.d (.i .i64 y5))), (18, (.d (.i .i64 y5))), (17, (vGExpr y4)), (5, (.ptr 5 0)), (16, (vGExpr y4)), (15, (vGExpr p0)), (4, (.d (.i .i64 y3))), (14, (.d (.i .i64 y3))), (13, (vGExpr y2)), (12, (vGExpr p0)), (11, (.d (.b (decide (y1 < 0))))), (10, (.d (.i .i64 y1))), (3, (.d (.i .i64 y1))), (9, (.d (.i .i64 y1))), (8, (.d (.i .i64 1048576))), (7, (vGExpr p0)), (3, (.d (.i .i64 1048576))), (2, (.d (.b false))), (1, (.ptr 1 0)), (0, (vGExpr p0))], [(5, [(.d (.i .i64 y4.kind)), (.d (.i .i64 y4.op)), (.d (.b y4.not_)), (.d (.i .i64 y4.value.kind)), (.d (.i .i64 y4.value.num)), (.d (.s (bs y4.value.text))), (.d (.s (bs y4.qual))), (.d (.s (bs y4.name))), (.d (.sl 10 (y4.kids.map cGExpr))), (.d (.sl 6 (y4.sub.map cGQuery)))]), (1, [(.d (.i .i64 p0.kind)), (.d (.i .i64 p0.op)), (.d (.b p0.not_)), (.d (.i .i64 p0.value.kind)), (.d (.i .i64 p0.value.num)), (.d (.s (bs p0.value.text))), (.d (.s (bs p0.qual))), (.d (.s (bs p0.name))), (.d (.sl 10 (p0.kids.map cGExpr))), (.d (.sl 6 (p0.sub.map cGQuery)))])]⟩) (by kernel_rfl) ?_
      refine dnil_in (by kernel_rfl) (by kernel_rfl) ?_
      refine next_in ?_
      refine cond_step h (by kernel_rfl) ?_ ?_
      · clear h; intro h
        refine seq_in ?_
        refine ops_in ?_
        refine sts_ok 1 (s' := ⟨[(2, (.d (.b false))), (26, (.d (.b (!y7)))), (25, (.d (.b y7))), (24, (vGExpr y6)), (23, (vGExpr p0)), (22, (vGExpr y4)), (21, (.d (.b (!decide (y5 = y3))))), (20, (.d (.i .i64 y3))), (19, (.d (.i .i64 y5))), (6, (.d (.i .i64 y5))), (18, (.d (.i .i64 y5))), (17, (vGExpr y4)), (5, (.ptr 5 0)), (16, (vGExpr y4)), (15, (vGExpr p0)), (4, (.d (.i .i64 y3))), (14, (.d (.i .i64 y3))), (13, (vGExpr y2)), (12, (vGExpr p0)), (11, (.d (.b (decide (y1 < 0))))), (10, (.d (.i .i64 y1))), (3, (.d (.i .i64 y1))), (9, (.d (.i .i64 y1))), (8, (.d (.i .i64 1048576))), (7, (vGExpr p0)), (3, (.d (.i .i64 1048576))), (2, (.d (.b false))), (1, (.ptr 1 0)), (0, (vGExpr p0))], [(5, [(.d (.i .i64 y4.kind)), (.d (.i .i64 y4.op)), (.d (.b y4.not_)), (.d (.i .i64 y4.value.kind)), (.d (.i .i64 y4.value.num)), (.d (.s (bs y4.value.text))), (.d (.s (bs y4.qual))), (.d (.s (bs y4.name))), (.d (.sl 10 (y4.kids.map cGExpr))), (.d (.sl 6 (y4.sub.map cGQuery)))]), (1, [(.d (.i .i64 p0.kind)), (.d (.i .i64 p0.op)), (.d (.b p0.not_)), (.d (.i .i64 p0.value.kind)), (.d (.i .i64 p0.value.num)), (.d (.s (bs p0.value.text))), (.d (.s (bs p0.qual))), (.d (.s (bs p0.name))), (.d (.sl 10 (p0.kids.map cGExpr))), (.d (.sl 6 (p0.sub.map cGQuery)))])]⟩) (by kernel_rfl) ?_
        refine nil_in ?_
        refine next_in ?_
        refine ret_in ?_
        refine thenK_ret ?_
        have h := Option.some.inj h; subst h
        exact ret1_step (v := (.d (.b false))) (by kernel_rfl) (by kernel_rfl) (by kernel_rfl)
      · clear h; intro h
        refine skip_in ?_
        refine next_in ?_
        refine seq_in ?_
        refine ops_in ?_
        refine sts_ok 1 (s' := ⟨[(2, (.d (.b true))), (26, (.d (.b (!y7)))), (25, (.d (.b y7))), (24, (vGExpr y6)), (23, (vGExpr p0)), (22, (vGExpr y4)), (21, (.d (.b (!decide (y5 = y3))))), (20, (.d (.i .i64 y3))), (19, (.d (.i .i64 y5))), (6, (.d (.i .i64 y5))), (18, (.d (.i .i64 y5))), (17, (vGExpr y4)), (5, (.ptr 5 0)), (16, (vGExpr y4)), (15, (vGExpr p0)), (4, (.d (.i .i64 y3))), (14, (.d (.i .i64 y3))), (13, (vGExpr y2)), (12, (vGExpr p0)), (11, (.d (.b (decide (y1 < 0))))), (10, (.d (.i .i64 y1))), (3, (.d (.i .i64 y1))), (9, (.d (.i .i64 y1))), (8, (.d (.i .i64 1048576))), (7, (vGExpr p0)), (3, (.d (.i .i64 1048576))), (2, (.d (.b false))), (1, (.ptr 1 0)), (0, (vGExpr p0))], [(5, [(.d (.i .i64 y4.kind)), (.d (.i .i64 y4.op)), (.d (.b y4.not_)), (.d (.i .i64 y4.value.kind)), (.d (.i .i64 y4.value.num)), (.d (.s (bs y4.value.text))), (.d (.s (bs y4.qual))), (.d (.s (bs y4.name))), (.d (.sl 10 (y4.kids.map cGExpr))), (.d (.sl 6 (y4.sub.map cGQuery)))]), (1, [(.d (.i .i64 p0.kind)), (.d (.i .i64 p0.op)), (.d (.b p0.not_)), (.d (.i .i64 p0.value.kind)), (.d (.i .i64 p0.value.num)), (.d (.s (bs p0.value.text))), (.d (.s (bs p0.qual))), (.d (.s (bs p0.name))), (.d (.sl 10 (p0.kids.map cGExpr))), (.d (.sl 6 (p0.sub.map cGQuery)))])]⟩) (by kernel_rfl) ?_
        refine nil_in ?_
        refine next_in ?_
        refine ret_in ?_
        have h := Option.some.inj h; subst h
        exact ret1_step (v := (.d (.b true))) (by kernel_rfl) (by kernel_rfl) (by kernel_rfl)
theorem law_wFnExactWraps (hp : ∀ (x0 : GExpr) (_ : okGExpr x0), wFnExactWraps x0 = some true) (ls : List (List D)) (hw : WtA Try.prog [43] ls) (hok : ∀ l ∈ ls, ∀ x ∈ l, OkD x) : ACalls Try.prog 4 (argsV Try.prog [43] ls) [] fun x _ => x = .d (.b true) := by
  rcases hw with _ | ⟨h0, hw⟩
  cases hw
  obtain ⟨x0, rfl⟩ := de43 h0
  have a0 : argV Try.prog 43 (cGExpr x0) = (vGExpr x0) := (congrArg _ (cGExpr_eq x0)).trans (by kernel_rfl)
  have k0 : ∀ d ∈ cGExpr x0, OkD d := hok _ (by simp)
  simp only [argsV, a0]
  exact OK_wFnExactWraps x0 true (hp x0 (koGExpr x0 k0))
end Go.Proofs.Ytdiknmniclancaa
