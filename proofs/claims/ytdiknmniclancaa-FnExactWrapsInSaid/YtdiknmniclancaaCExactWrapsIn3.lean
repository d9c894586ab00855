/- That the code computes these functions (printed by a program). -/
import Derived.Test.YtdiknmniclancaaCExactWrapsIn2
namespace Go.Proofs.Ytdiknmniclancaa
open Go Go.RowKit Go.Ab
theorem OK_wFnExactWrapsIn (p0 : GQuery) : FOk Try.prog 5 [(vGQuery p0)] (fun y => (.d (.b y))) (wFnExactWrapsIn p0) := by
  intro r h
  rw [wFnExactWrapsIn] at h
  refine acalls_of_fn trwFnExactWrapsIn (Nat.le_of_ble_eq_true rfl) (by simp) ?_
  show avc Try.prog acwFnExactWrapsIn (qwFnExactWrapsIn _) ⟨[(0, (vGQuery p0))], []⟩
  delta acwFnExactWrapsIn
  refine seq_in ?_
  refine ops_in ?_
  refine sts_ok 2 (s' := ⟨[(2, (.d (.b false))), (1, (.ptr 1 0)), (0, (vGQuery p0))], [(1, [(.d (.b p0.distinct)), (.d (.sl 13 (p0.items.map cGItem))), (.d (.sl 3 (p0.from_.map cGSource))), (.d (.sl 10 (p0.where_.map cGExpr))), (.d (.sl 11 (p0.order.map cGSortKey))), (.d (.i .i64 p0.limit))])]⟩) (by kernel_rfl) ?_
  refine nil_in ?_
  refine next_in ?_
  refine seq_in ?_
  refine ops_in ?_
  refine sts_ok 1 (s' := ⟨[(3, (.d (.i .i64 1048576))), (2, (.d (.b false))), (1, (.ptr 1 0)), (0, (vGQuery p0))], [(1, [(.d (.b p0.distinct)), (.d (.sl 13 (p0.items.map cGItem))), (.d (.sl 3 (p0.from_.map cGSource))), (.d (.sl 10 (p0.where_.map cGExpr))), (.d (.sl 11 (p0.order.map cGSortKey))), (.d (.i .i64 p0.limit))])]⟩) (by kernel_rfl) ?_
  refine nil_in ?_
  refine next_in ?_
  refine seq_in ?_
  refine ops_in ?_
  refine sts_ok 2 (s' := ⟨[(8, (.d (.i .i64 1048576))), (7, (vGQuery p0)), (3, (.d (.i .i64 1048576))), (2, (.d (.b false))), (1, (.ptr 1 0)), (0, (vGQuery p0))], [(1, [(.d (.b p0.distinct)), (.d (.sl 13 (p0.items.map cGItem))), (.d (.sl 3 (p0.from_.map cGSource))), (.d (.sl 10 (p0.where_.map cGExpr))), (.d (.sl 11 (p0.order.map cGSortKey))), (.d (.i .i64 p0.limit))])]⟩) (by kernel_rfl) ?_
  refine call_step (m := wSzQuery p0 1048576) (args := [(vGQuery p0), (.d (.i .i64 1048576))]) (v' := (fun y => (.d (.i .i64 y)))) h (OK_wSzQuery p0 1048576) (by kernel_rfl) (by kernel_rfl) (fun _ => rfl) ?_
  clear h; intro y1 h
  refine sts_ok 1 (s' := ⟨[(3, (.d (.i .i64 y1))), (9, (.d (.i .i64 y1))), (8, (.d (.i .i64 1048576))), (7, (vGQuery p0)), (3, (.d (.i .i64 1048576))), (2, (.d (.b false))), (1, (.ptr 1 0)), (0, (vGQuery p0))], [(1, [(.d (.b p0.distinct)), (.d (.sl 13 (p0.items.map cGItem))), (.d (.sl 3 (p0.from_.map cGSource))), (.d (.sl 10 (p0.where_.map cGExpr))), (.d (.sl 11 (p0.order.map cGSortKey))), (.d (.i .i64 p0.limit))])]⟩) (by kernel_rfl) ?_
  refine nil_in ?_
  refine next_in ?_
  refine seq_in ?_
  refine seq_in ?_
  refine ops_in ?_
  refine sts_ok 2 (s' := ⟨[(11, (.d (.b (decide (y1 < 0))))), (10, (.d (.i .i64 y1))), (3, (.d (.i .i64 y1))), (9, (.d (.i .i64 y1))), (8, (.d (.i .i64 1048576))), (7, (vGQuery p0)), (3, (.d (.i .i64 1048576))), (2, (.d (.b false))), (1, (.ptr 1 0)), (0, (vGQuery p0))], [(1, [(.d (.b p0.distinct)), (.d (.sl 13 (p0.items.map cGItem))), (.d (.sl 3 (p0.from_.map cGSource))), (.d (.sl 10 (p0.where_.map cGExpr))), (.d (.sl 11 (p0.order.map cGSortKey))), (.d (.i .i64 p0.limit))])]⟩) (by kernel_rfl) ?_
  refine nil_in ?_
  refine next_in ?_
  refine cond_step h (by kernel_rfl) ?_ ?_
  · clear h; intro h
    refine seq_in ?_
    refine ops_in ?_
    refine sts_ok 1 (s' := ⟨[(2, (.d (.b true))), (11, (.d (.b (decide (y1 < 0))))), (10, (.d (.i .i64 y1))), (3, (.d (.i .i64 y1))), (9, (.d (.i .i64 y1))), (8, (.d (.i .i64 1048576))), (7, (vGQuery p0)), (3, (.d (.i .i64 1048576))), (2, (.d (.b false))), (1, (.ptr 1 0)), (0, (vGQuery p0))], [(1, [(.d (.b p0.distinct)), (.d (.sl 13 (p0.items.map cGItem))), (.d (.sl 3 (p0.from_.map cGSource))), (.d (.sl 10 (p0.where_.map cGExpr))), (.d (.sl 11 (p0.order.map cGSortKey))), (.d (.i .i64 p0.limit))])]⟩) (by kernel_rfl) ?_
    refine nil_in ?_
    refine next_in ?_
    refine ret_in ?_
    refine thenK_ret ?_
    have h := Option.some.inj h; subst h
    exact ret1_step (v := (.d (.b true))) (by kernel_rfl) (by kernel_rfl) (by kernel_rfl)
  · clear h; intro h
    refine skip_in ?_
    refine next_in ?_
    refine seq_in ?_
    refine ops_in ?_
    refine sts_ok 1 (s' := ⟨[(12, (vGQuery p0)), (11, (.d (.b (decide (y1 < 0))))), (10, (.d (.i .i64 y1))), (3, (.d (.i .i64 y1))), (9, (.d (.i .i64 y1))), (8, (.d (.i .i64 1048576))), (7, (vGQuery p0)), (3, (.d (.i .i64 1048576))), (2, (.d (.b false))), (1, (.ptr 1 0)), (0, (vGQuery p0))], [(1, [(.d (.b p0.distinct)), (.d (.sl 13 (p0.items.map cGItem))), (.d (.sl 3 (p0.from_.map cGSource))), (.d (.sl 10 (p0.where_.map cGExpr))), (.d (.sl 11 (p0.order.map cGSortKey))), (.d (.i .i64 p0.limit))])]⟩) (by kernel_rfl) ?_
    refine call_step (m := wToQuery p0) (args := [(vGQuery p0)]) (v' := (fun y => (vGQuery y))) h (OK_wToQuery p0) (by kernel_rfl) (by kernel_rfl) (fun _ => rfl) ?_
    clear h; intro y2 h
    refine call_step (m := sWrapsIn y2) (args := [(vGQuery y2)]) (v' := (fun y => (.d (.i .i64 y)))) h (OK_sWrapsIn y2) (by kernel_rfl) (by kernel_rfl) (fun _ => rfl) ?_
    clear h; intro y3 h
    refine sts_ok 1 (s' := ⟨[(4, (.d (.i .i64 y3))), (14, (.d (.i .i64 y3))), (13, (vGQuery y2)), (12, (vGQuery p0)), (11, (.d (.b (decide (y1 < 0))))), (10, (.d (.i .i64 y1))), (3, (.d (.i .i64 y1))), (9, (.d (.i .i64 y1))), (8, (.d (.i .i64 1048576))), (7, (vGQuery p0)), (3, (.d (.i .i64 1048576))), (2, (.d (.b false))), (1, (.ptr 1 0)), (0, (vGQuery p0))], [(1, [(.d (.b p0.distinct)), (.d (.sl 13 (p0.items.map cGItem))), (.d (.sl 3 (p0.from_.map cGSource))), (.d (.sl 10 (p0.where_.map cGExpr))), (.d (.sl 11 (p0.order.map cGSortKey))), (.d (.i .i64 p0.limit))])]⟩) (by kernel_rfl) ?_
    refine nil_in ?_
    refine next_in ?_
    refine seq_in ?_
    refine ops_in ?_
    refine sts_ok 1 (s' := ⟨[(15, (vGQuery p0)), (4, (.d (.i .i64 y3))), (14, (.d (.i .i64 y3))), (13, (vGQuery y2)), (12, (vGQuery p0)), (11, (.d (.b (decide (y1 < 0))))), (10, (.d (.i .i64 y1))), (3, (.d (.i .i64 y1))), (9, (.d (.i .i64 y1))), (8, (.d (.i .i64 1048576))), (7, (vGQuery p0)), (3, (.d (.i .i64 1048576))), (2, (.d (.b false))), (1, (.ptr 1 0)), (0, (vGQuery p0))], [(1, [(.d (.b p0.distinct)), (.d (.sl 13 (p0.items.map cGItem))), (.d (.sl 3 (p0.from_.map cGSource))), (.d (.sl 10 (p0.where_.map cGExpr))), (.d (.sl 11 (p0.order.map cGSortKey))), (.d (.i .i64 p0.limit))])]⟩) (by kernel_rfl) ?_
    refine call_step (m := wToQuery p0) (args := [(vGQuery p0)]) (v' := (fun y => (vGQuery y))) h (OK_wToQuery p0) (by kernel_rfl) (by kernel_rfl) (fun _ => rfl) ?_
    clear h; intro y4 h
    refine sts_ok 2 (s' := ⟨[(5, (.ptr 5 0)), (16, (vGQuery y4)), (15, (vGQuery p0)), (4, (.d (.i .i64 y3))), (14, (.d (.i .i64 y3))), (13, (vGQuery y2)), (12, (vGQuery p0)), (11, (.d (.b (decide (y1 < 0))))), (10, (.d (.i .i64 y1))), (3, (.d (.i .i64 y1))), (9, (.d (.i .i64 y1))), (8, (.d (.i .i64 1048576))), (7, (vGQuery p0)), (3, (.d (.i .i64 1048576))), (2, (.d (.b false))), (1, (.ptr 1 0)), (0, (vGQuery p0))], [(5, [(.d (.b y4.distinct)), (.d (.sl 13 (y4.items.map cGItem))), (.d (.sl 3 (y4.from_.map cGSource))), (.d (.sl 10 (y4.where_.map cGExpr))), (.d (.sl 11 (y4.order.map cGSortKey))), (.d (.i .i64 y4.limit))]), (1, [(.d (.b p0.distinct)), (.d (.sl 13 (p0.items.map cGItem))), (.d (.sl 3 (p0.from_.map cGSource))), (.d (.sl 10 (p0.where_.map cGExpr))), (.d (.sl 11 (p0.order.map cGSortKey))), (.d (.i .i64 p0.limit))])]⟩) (by kernel_rfl) ?_
    refine nil_in ?_
    refine next_in ?_
    refine seq_in ?_
    refine ops_in ?_
    refine sts_ok 1 (s' := ⟨[(17, (vGQuery y4)), (5, (.ptr 5 0)), (16, (vGQuery y4)), (15, (vGQuery p0)), (4, (.d (.i .i64 y3))), (14, (.d (.i .i64 y3))), (13, (vGQuery y2)), (12, (vGQuery p0)), (11, (.d (.b (decide (y1 < 0))))), (10, (.d (.i .i64 y1))), (3, (.d (.i .i64 y1))), (9, (.d (.i .i64 y1))), (8, (.d (.i .i64 1048576))), (7, (vGQuery p0)), (3, (.d (.i .i64 1048576))), (2, (.d (.b false))), (1, (.ptr 1 0)), (0, (vGQuery p0))], [(5, [(.d (.b y4.distinct)), (.d (.sl 13 (y4.items.map cGItem))), (.d (.sl 3 (y4.from_.map cGSource))), (.d (.sl 10 (y4.where_.map cGExpr))), (.d (.sl 11 (y4.order.map cGSortKey))), (.d (.i .i64 y4.limit))]), (1, [(.d (.b p0.distinct)), (.d (.sl 13 (p0.items.map cGItem))), (.d (.sl 3 (p0.from_.map cGSource))), (.d (.sl 10 (p0.where_.map cGExpr))), (.d (.sl 11 (p0.order.map cGSortKey))), (.d (.i .i64 p0.limit))])]⟩) (by kernel_rfl) ?_
    refine call_step (m := iWrapsIn y4) (args := [(vGQuery y4)]) (v' := (fun y => (.d (.i .i64 y)))) h (OK_iWrapsIn y4) (by kernel_rfl) (by kernel_rfl) (fun _ => rfl) ?_
    clear h; intro y5 h
    refine sts_ok 1 (s' := ⟨[(6, (.d (.i .i64 y5))), (18, (.d (.i .i64 y5))), (17, (vGQuery y4)), (5, (.ptr 5 0)), (16, (vGQuery y4)), (15, (vGQuery p0)), (4, (.d (.i .i64 y3))), (14, (.d (.i .i64 y3))), (13, (vGQuery y2)), (12, (vGQuery p0)), (11, (.d (.b (decide (y1 < 0))))), (10, (.d (.i .i64 y1))), (3, (.d (.i .i64 y1))), (9, (.d (.i .i64 y1))), (8, (.d (.i .i64 1048576))), (7, (vGQuery p0)), (3, (.d (.i .i64 1048576))), (2, (.d (.b false))), (1, (.ptr 1 0)), (0, (vGQuery p0))], [(5, [(.d (.b y4.distinct)), (.d (.sl 13 (y4.items.map cGItem))), (.d (.sl 3 (y4.from_.map cGSource))), (.d (.sl 10 (y4.where_.map cGExpr))), (.d (.sl 11 (y4.order.map cGSortKey))), (.d (.i .i64 y4.limit))]), (1, [(.d (.b p0.distinct)), (.d (.sl 13 (p0.items.map cGItem))), (.d (.sl 3 (p0.from_.map cGSource))), (.d (.sl 10 (p0.where_.map cGExpr))), (.d (.sl 11 (p0.order.map cGSortKey))), (.d (.i .i64 p0.limit))])]⟩) (by kernel_rfl) ?_
    refine nil_in ?_
    refine next_in ?_
    refine seq_in ?_
    refine seq_in ?_
    refine ops_in ?_
    refine sts_ok 3 (s' := ⟨[(21, (.d (.b (!decide (y5 = y3))))), (20, (.d (.i .i64 y3))), (19, (.d (.i .i64 y5))), (6, (.d (.i .i64 y5))), (18, (.d (.i .i64 y5))), (17, (vGQuery y4)), (5, (.ptr 5 0)), (16, (vGQuery y4)), (15, (vGQuery p0)), (4, (.d (.i .i64 y3))), (14, (.d (.i .i64 y3))), (13, (vGQuery y2)), (12, (vGQuery p0)), (11, (.d (.b (decide (y1 < 0))))), (10, (.d (.i .i64 y1))), (3, (.d (.i .i64 y1))), (9, (.d (.i .i64 y1))), (8, (.d (.i .i64 1048576))), (7, (vGQuery p0)), (3, (.d (.i .i64 1048576))), (2, (.d (.b false))), (1, (.ptr 1 0)), (0, (vGQuery p0))], [(5, [(.d (.b y4.distinct)), (.d (.sl 13 (y4.items.map cGItem))), (.d (.sl 3 (y4.from_.map cGSource))), (.d (.sl 10 (y4.where_.map cGExpr))), (.d (.sl 11 (y4.order.map cGSortKey))), (.d (.i .i64 y4.limit))]), (1, [(.d (.b p0.distinct)), (.d (.sl 13 (p0.items.map cGItem))), (.d (.sl 3 (p0.from_.map cGSource))), (.d (.sl 10 (p0.where_.map cGExpr))), (.d (.sl 11 (p0.order.map cGSortKey))), (.d (.i .i64 p0.limit))])]⟩) (by kernel_rfl) ?_
    refine nil_in ?_
    refine next_in ?_
    refine cond_step h (by kernel_rfl) ?_ ?_
    · clear h; intro h
      refine seq_in ?_
      refine ops_in ?_
      refine sts_ok 1 (s' := ⟨[(2, (.d (.b false))), (21, (.d (.b (!decide (y5 = y3))))), (20, (.d (.i .i64 y3))), (19, (.d (.i .i64 y5))), (6, (.d (.i .i64 y5))), (18, (.d (.i .i64 y5))), (17, (vGQuery y4)), (5, (.ptr 5 0)), (16, (vGQuery y4)), (15, (vGQuery p0)), (4, (.d (.i .i64 y3))), (14, (.d (.i .i64 y3))), (13, (vGQuery y2)), (12, (vGQuery p0)), (11, (.d (.b (decide (y1 < 0))))), (10, (.d (.i .i64 y1))), (3, (.d (.i .i64 y1))), (9, (.d (.i .i64 y1))), (8, (.d (.i .i64 1048576))), (7, (vGQuery p0)), (3, (.d (.i .i64 1048576))), (2, (.d (.b false))), (1, (.ptr 1 0)), (0, (vGQuery p0))], [(5, [(.d (.b y4.distinct)), (.d (.sl 13 (y4.items.map cGItem))), (.d (.sl 3 (y4.from_.map cGSource))), (.d (.sl 10 (y4.where_.map cGExpr))), (.d (.sl 11 (y4.order.map cGSortKey))), (.d (.i .i64 y4.limit))]), (1, [(.d (.b p0.distinct)), (.d (.sl 13 (p0.items.map cGItem))), (.d (.sl 3 (p0.from_.map cGSource))), (.d (.sl 10 (p0.where_.map cGExpr))), (.d (.sl 11 (p0.order.map cGSortKey))), (.d (.i .i64 p0.limit))])]⟩) (by kernel_rfl) ?_
      refine nil_in ?_
      refine next_in ?_
      refine ret_in ?_
      refine thenK_ret ?_
      have h := Option.some.inj h; subst h
      exact ret1_step (v := (.d (.b false))) (by kernel_rfl) (by kernel_rfl) (by kernel_rfl)
    · clear h; intro h
      refine skip_in ?_
      refine next_in ?_
      refine seq_in ?_
      refine seq_in ?_
      refine dops_in ?_
      refine dsts_ok 2 (s' := ⟨[(23, (vGQuery p0)), (22, (vGQuery y4)), (21, (.d (.b (!decide (y5 = y3))))), (20, (.d (.i .i64 y3))), (19, (.d (.i .i64 y5))), (6, (.d (.i .i64 y5))), (18, (.d (.i .i64 y5))), (17, (vGQuery y4)), (5, (.ptr 5 0)), (16, (vGQuery y4)), (15, (vGQuery p0)), (4, (.d (.i .i64 y3))), (14, (.d (.i .i64 y3))), (13, (vGQuery y2)), (12, (vGQuery p0)), (11, (.d (.b (decide (y1 < 0))))), (10, (.d (.i .i64 y1))), (3, (.d (.i .i64 y1))), (9, (.d (.i .i64 y1))), (8, (.d (.i .i64 1048576))), (7, (vGQuery p0)), (3, (.d (.i .i64 1048576))), (2, (.d (.b false))), (1, (.ptr 1 0)), (0, (vGQuery p0))], [(5, [(.d (.b y4.distinct)), (.d (.sl 13 (y4.items.map cGItem))), (.d (.sl 3 (y4.from_.map cGSource))), (.d (.sl 10 (y4.where_.map cGExpr))), (.d (.sl 11 (y4.order.map cGSortKey))), (.d (.i .i64 y4.limit))]), (1, [(.d (.b p0.distinct)), (.d (.sl 13 (p0.items.map cGItem))), (.d (.sl 3 (p0.from_.map cGSource))), (.d (.sl 10 (p0.where_.map cGExpr))), (.d (.sl 11 (p0.order.map cGSortKey))), (.d (.i .i64 p0.limit))])]⟩) (by kernel_rfl) ?_
      refine dcall_step (m := wToQuery p0) (args := [(vGQuery p0)]) (v' := (fun y => (vGQuery y))) h (OK_wToQuery p0) (by kernel_rfl) (by kernel_rfl) (fun _ => rfl) ?_
      clear h; intro y6 h
      refine dcall_step (m := wEqQuery y4 y6) (args := [(vGQuery y4), (vGQuery y6)]) (v' := (fun y => (.d (.b y)))) h (OK_wEqQuery y4 y6) (by kernel_rfl) (by kernel_rfl) (fun _ => rfl) ?_
      clear h; intro y7 h
      refine dsts_ok 1 (s' := ⟨[(26, (.d (.b (!y7)))), (25, (.d (.b y7))), (24, (vGQuery y6)), (23, (vGQuery p0)), (22, (vGQuery y4)), (21, (.d (.b (!decide (y5 = y3))))), (20, (.d (.i .i64 y3))), (19, (.d (.i .i64 y5))), (6, (.d (.i .i64 y5))), (18, (.d (.i .i64 y5))), (17, (vGQuery y4)), (5, (.ptr 5 0)), (16, (vGQuery y4)), (15, (vGQuery p0)), (4, (.d (.i .i64 y3))), (14, (.d (.i .i64 y3))), (13, (vGQuery y2)), (12, (vGQuery p0)), (11, (.d (.b (decide (y1 < 0))))), (10, (.d (.i .i64 y1))), (3, (.d (.i .i64 y1))), (9, (.d (.i .i64 y1))), (8, (.d (.i .i64 1048576))), (7, (vGQuery p0)), (3, (.d (.i .i64 1048576))), (2, (.d (.b false))), (1, (.ptr 1 0)), (0, (vGQuery p0))], [(5, [(.d (.b y4.distinct)), (.d (.sl 13 (y4.items.map cGItem))), (.d (.sl 3 (y4.from_.map cGSource))), (.d (.sl 10 (y4.where_.map cGExpr))), (.d (.sl 11 (y4.order.map cGSortKey))), (.d (.i .i64 y4.limit))]), (1, [(.d (.b p0.distinct)), (.d (.sl 13 (p0.items.map cGItem))), (.d (.sl 3 (p0.from_.map cGSource))), (.d (.sl 10 (p0.where_.map cGExpr))), (.d (.sl 11 (p0.order.map cGSortKey))), (.d (.i .i64 p0.limit))])]⟩) (by kernel_rfl) ?_
      refine dnil_in (by kernel_rfl) (by kernel_rfl) ?_
      refine next_in ?_
      refine cond_step h (by kernel_rfl) ?_ ?_
      · clear h; intro h
        refine seq_in ?_
        refine ops_in ?_
        refine sts_ok 1 (s' := ⟨[(2, (.d (.b false))), (26, (.d (.b (!y7)))), (25, (.d (.b y7))), (24, (vGQuery y6)), (23, (vGQuery p0)), (22, (vGQuery y4)), (21, (.d (.b (!decide (y5 = y3))))), (20, (.d (.i .i64 y3))), (19, (.d (.i .i64 y5))), (6, (.d (.i .i64 y5))), (18, (.d (.i .i64 y5))), (17, (vGQuery y4)), (5, (.ptr 5 0)), (16, (vGQuery y4)), (15, (vGQuery p0)), (4, (.d (.i .i64 y3))), (14, (.d (.i .i64 y3))), (13, (vGQuery y2)), (12, (vGQuery p0)), (11, (.d (.b (decide (y1 < 0))))), (10, (.d (.i .i64 y1))), (3, (.d (.i .i64 y1))), (9, (.d (.i .i64 y1))), (8, (.d (.i .i64 1048576))), (7, (vGQuery p0)), (3, (.d (.i .i64 1048576))), (2, (.d (.b false))), (1, (.ptr 1 0)), (0, (vGQuery p0))], [(5, [(.d (.b y4.distinct)), (.d (.sl 13 (y4.items.map cGItem))), (.d (.sl 3 (y4.from_.map cGSource))), (.d (.sl 10 (y4.where_.map cGExpr))), (.d (.sl 11 (y4.order.map cGSortKey))), (.d (.i .i64 y4.limit))]), (1, [(.d (.b p0.distinct)), (.d (.sl 13 (p0.items.map cGItem))), (.d (.sl 3 (p0.from_.map cGSource))), (.d (.sl 10 (p0.where_.map cGExpr))), (.d (.sl 11 (p0.order.map cGSortKey))), (.d (.i .i64 p0.limit))])]⟩) (by kernel_rfl) ?_
        refine nil_in ?_
        refine next_in ?_
        refine ret_in ?_
        refine thenK_ret ?_
        have h := Option.some.inj h; subst h
        exact ret1_step (v := (.d (.b false))) (by kernel_rfl) (by kernel_rfl) (by kernel_rfl)
      · clear h; intro h
        refine skip_in ?_
        refine next_in ?_
        refine seq_in ?_
        refine ops_in ?_
        refine sts_ok 1 (s' := ⟨[(2, (.d (.b true))), (26, (.d (.b (!y7)))), (25, (.d (.b y7))), (24, (vGQuery y6)), (23, (vGQuery p0)), (22, (vGQuery y4)), (21, (.d (.b (!decide (y5 = y3))))), (20, (.d (.i .i64 y3))), (19, (.d (.i .i64 y5))), (6, (.d (.i .i64 y5))), (18, (.d (.i .i64 y5))), (17, (vGQuery y4)), (5, (.ptr 5 0)), (16, (vGQuery y4)), (15, (vGQuery p0)), (4, (.d (.i .i64 y3))), (14, (.d (.i .i64 y3))), (13, (vGQuery y2)), (12, (vGQuery p0)), (11, (.d (.b (decide (y1 < 0))))), (10, (.d (.i .i64 y1))), (3, (.d (.i .i64 y1))), (9, (.d (.i .i64 y1))), (8, (.d (.i .i64 1048576))), (7, (vGQuery p0)), (3, (.d (.i .i64 1048576))), (2, (.d (.b false))), (1, (.ptr 1 0)), (0, (vGQuery p0))], [(5, [(.d (.b y4.distinct)), (.d (.sl 13 (y4.items.map cGItem))), (.d (.sl 3 (y4.from_.map cGSource))), (.d (.sl 10 (y4.where_.map cGExpr))), (.d (.sl 11 (y4.order.map cGSortKey))), (.d (.i .i64 y4.limit))]), (1, [(.d (.b p0.distinct)), (.d (.sl 13 (p0.items.map cGItem))), (.d (.sl 3 (p0.from_.map cGSource))), (.d (.sl 10 (p0.where_.map cGExpr))), (.d (.sl 11 (p0.order.map cGSortKey))), (.d (.i .i64 p0.limit))])]⟩) (by kernel_rfl) ?_
        refine nil_in ?_
        refine next_in ?_
        refine ret_in ?_
        have h := Option.some.inj h; subst h
        exact ret1_step (v := (.d (.b true))) (by kernel_rfl) (by kernel_rfl) (by kernel_rfl)
theorem law_wFnExactWrapsIn (hp : ∀ (x0 : GQuery) (_ : okGQuery x0), wFnExactWrapsIn x0 = some true) (ls : List (List D)) (hw : WtA Try.prog [27] ls) (hok : ∀ l ∈ ls, ∀ x ∈ l, OkD x) : ACalls Try.prog 5 (argsV Try.prog [27] ls) [] fun x _ => x = .d (.b true) := by
  rcases hw with _ | ⟨h0, hw⟩
  cases hw
  obtain ⟨x0, rfl⟩ := de27 h0
  have a0 : argV Try.prog 27 (cGQuery x0) = (vGQuery x0) := (congrArg _ (cGQuery_eq x0)).trans (by kernel_rfl)
  have k0 : ∀ d ∈ cGQuery x0, OkD d := hok _ (by simp)
  simp only [argsV, a0]
  exact OK_wFnExactWrapsIn x0 true (hp x0 (koGQuery x0 k0))
end Go.Proofs.Ytdiknmniclancaa
