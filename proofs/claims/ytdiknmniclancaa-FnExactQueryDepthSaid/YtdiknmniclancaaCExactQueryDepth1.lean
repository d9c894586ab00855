/- That the code computes these functions (printed by a program). -/
import Derived.Test.YtdiknmniclancaaCExactQueryDepth0
namespace Go.Proofs.Ytdiknmniclancaa
open Go Go.RowKit Go.Ab
theorem OKs_wEqSource : (∀ (p0 : GSource) (p1 : GSource) (r : Bool), wEqSource p0 p1 = some r → ACalls Try.prog 124 [(vGSource p0), (vGSource p1)] [] fun x _ => x = (fun y => (.d (.b y))) r) ∧ (∀ (p0 : (List GExpr)) (p1 : (List GExpr)) (r : Bool), wEqExprS p0 p1 = some r → ACalls Try.prog 51 [(.d (.sl 10 (p0.map cGExpr))), (.d (.sl 10 (p1.map cGExpr)))] [] fun x _ => x = (fun y => (.d (.b y))) r) ∧ (∀ (p0 : (List GExpr)) (p1 : (List GExpr)) (x5 : Int) (r : Bool), wEqExprS_L0 p0 p1 x5 = some r → avc Try.prog acwEqExprS_L0 (qwEqExprS_1 r) (stwEqExprS_L0 p0 p1 x5)) ∧ (∀ (p0 : GExpr) (p1 : GExpr) (r : Bool), wEqExpr p0 p1 = some r → ACalls Try.prog 23 [(vGExpr p0), (vGExpr p1)] [] fun x _ => x = (fun y => (.d (.b y))) r) ∧ (∀ (p0 : (List GQuery)) (p1 : (List GQuery)) (r : Bool), wEqQueryS p0 p1 = some r → ACalls Try.prog 78 [(.d (.sl 6 (p0.map cGQuery))), (.d (.sl 6 (p1.map cGQuery)))] [] fun x _ => x = (fun y => (.d (.b y))) r) ∧ (∀ (p0 : (List GQuery)) (p1 : (List GQuery)) (x5 : Int) (r : Bool), wEqQueryS_L0 p0 p1 x5 = some r → avc Try.prog acwEqQueryS_L0 (qwEqQueryS_1 r) (stwEqQueryS_L0 p0 p1 x5)) ∧ (∀ (p0 : GQuery) (p1 : GQuery) (r : Bool), wEqQuery p0 p1 = some r → ACalls Try.prog 18 [(vGQuery p0), (vGQuery p1)] [] fun x _ => x = (fun y => (.d (.b y))) r) ∧ (∀ (p0 : (List GSortKey)) (p1 : (List GSortKey)) (r : Bool), wEqSortKeyS p0 p1 = some r → ACalls Try.prog 69 [(.d (.sl 11 (p0.map cGSortKey))), (.d (.sl 11 (p1.map cGSortKey)))] [] fun x _ => x = (fun y => (.d (.b y))) r) ∧ (∀ (p0 : (List GSortKey)) (p1 : (List GSortKey)) (x5 : Int) (r : Bool), wEqSortKeyS_L0 p0 p1 x5 = some r → avc Try.prog acwEqSortKeyS_L0 (qwEqSortKeyS_1 r) (stwEqSortKeyS_L0 p0 p1 x5)) ∧ (∀ (p0 : GSortKey) (p1 : GSortKey) (r : Bool), wEqSortKey p0 p1 = some r → ACalls Try.prog 125 [(vGSortKey p0), (vGSortKey p1)] [] fun x _ => x = (fun y => (.d (.b y))) r) ∧ (∀ (p0 : (List GSource)) (p1 : (List GSource)) (r : Bool), wEqSourceS p0 p1 = some r → ACalls Try.prog 68 [(.d (.sl 3 (p0.map cGSource))), (.d (.sl 3 (p1.map cGSource)))] [] fun x _ => x = (fun y => (.d (.b y))) r) ∧ (∀ (p0 : (List GSource)) (p1 : (List GSource)) (x5 : Int) (r : Bool), wEqSourceS_L0 p0 p1 x5 = some r → avc Try.prog acwEqSourceS_L0 (qwEqSourceS_1 r) (stwEqSourceS_L0 p0 p1 x5)) ∧ (∀ (p0 : (List GItem)) (p1 : (List GItem)) (r : Bool), wEqItemS p0 p1 = some r → ACalls Try.prog 67 [(.d (.sl 13 (p0.map cGItem))), (.d (.sl 13 (p1.map cGItem)))] [] fun x _ => x = (fun y => (.d (.b y))) r) ∧ (∀ (p0 : (List GItem)) (p1 : (List GItem)) (x5 : Int) (r : Bool), wEqItemS_L0 p0 p1 x5 = some r → avc Try.prog acwEqItemS_L0 (qwEqItemS_1 r) (stwEqItemS_L0 p0 p1 x5)) ∧ (∀ (p0 : GItem) (p1 : GItem) (r : Bool), wEqItem p0 p1 = some r → ACalls Try.prog 123 [(vGItem p0), (vGItem p1)] [] fun x _ => x = (fun y => (.d (.b y))) r) := by
  refine wEqSource.mutual_partial_correctness (fun p0 p1 r => ACalls Try.prog 124 [(vGSource p0), (vGSource p1)] [] fun x _ => x = (fun y => (.d (.b y))) r) (fun p0 p1 r => ACalls Try.prog 51 [(.d (.sl 10 (p0.map cGExpr))), (.d (.sl 10 (p1.map cGExpr)))] [] fun x _ => x = (fun y => (.d (.b y))) r) (fun p0 p1 x5 r => avc Try.prog acwEqExprS_L0 (qwEqExprS_1 r) (stwEqExprS_L0 p0 p1 x5)) (fun p0 p1 r => ACalls Try.prog 23 [(vGExpr p0), (vGExpr p1)] [] fun x _ => x = (fun y => (.d (.b y))) r) (fun p0 p1 r => ACalls Try.prog 78 [(.d (.sl 6 (p0.map cGQuery))), (.d (.sl 6 (p1.map cGQuery)))] [] fun x _ => x = (fun y => (.d (.b y))) r) (fun p0 p1 x5 r => avc Try.prog acwEqQueryS_L0 (qwEqQueryS_1 r) (stwEqQueryS_L0 p0 p1 x5)) (fun p0 p1 r => ACalls Try.prog 18 [(vGQuery p0), (vGQuery p1)] [] fun x _ => x = (fun y => (.d (.b y))) r) (fun p0 p1 r => ACalls Try.prog 69 [(.d (.sl 11 (p0.map cGSortKey))), (.d (.sl 11 (p1.map cGSortKey)))] [] fun x _ => x = (fun y => (.d (.b y))) r) (fun p0 p1 x5 r => avc Try.prog acwEqSortKeyS_L0 (qwEqSortKeyS_1 r) (stwEqSortKeyS_L0 p0 p1 x5)) (fun p0 p1 r => ACalls Try.prog 125 [(vGSortKey p0), (vGSortKey p1)] [] fun x _ => x = (fun y => (.d (.b y))) r) (fun p0 p1 r => ACalls Try.prog 68 [(.d (.sl 3 (p0.map cGSource))), (.d (.sl 3 (p1.map cGSource)))] [] fun x _ => x = (fun y => (.d (.b y))) r) (fun p0 p1 x5 r => avc Try.prog acwEqSourceS_L0 (qwEqSourceS_1 r) (stwEqSourceS_L0 p0 p1 x5)) (fun p0 p1 r => ACalls Try.prog 67 [(.d (.sl 13 (p0.map cGItem))), (.d (.sl 13 (p1.map cGItem)))] [] fun x _ => x = (fun y => (.d (.b y))) r) (fun p0 p1 x5 r => avc Try.prog acwEqItemS_L0 (qwEqItemS_1 r) (stwEqItemS_L0 p0 p1 x5)) (fun p0 p1 r => ACalls Try.prog 123 [(vGItem p0), (vGItem p1)] [] fun x _ => x = (fun y => (.d (.b y))) r) ?_ ?_ ?_ ?_ ?_ ?_ ?_ ?_ ?_ ?_ ?_ ?_ ?_ ?_ ?_
  · intro F_wEqExprS OK_wEqExprS p0 p1 r h
    refine acalls_of_fn trwEqSource (Nat.le_of_ble_eq_true rfl) (by simp) ?_
    show avc Try.prog acwEqSource (qwEqSource _) ⟨[(0, (vGSource p0)), (1, (vGSource p1))], []⟩
    delta acwEqSource
    refine seq_in ?_
    refine ops_in ?_
    refine sts_ok 3 (s' := ⟨[(4, (.d (.b false))), (3, (.ptr 3 0)), (2, (.ptr 2 0)), (0, (vGSource p0)), (1, (vGSource p1))], [(3, [(.d (.s (bs p1.table))), (.d (.s (bs p1.as_))), (.d (.sl 10 (p1.on_.map cGExpr)))]), (2, [(.d (.s (bs p0.table))), (.d (.s (bs p0.as_))), (.d (.sl 10 (p0.on_.map cGExpr)))])]⟩) (by kernel_rfl) ?_
    refine nil_in ?_
    refine next_in ?_
    refine seq_in ?_
    refine seq_in ?_
    refine ops_in ?_
    refine sts_ok 5 (s' := ⟨[(9, (.d (.b (!decide (p0.table = p1.table))))), (8, (.d (.s (bs p1.table)))), (7, (.ptr 3 0)), (6, (.d (.s (bs p0.table)))), (5, (.ptr 2 0)), (4, (.d (.b false))), (3, (.ptr 3 0)), (2, (.ptr 2 0)), (0, (vGSource p0)), (1, (vGSource p1))], [(3, [(.d (.s (bs p1.table))), (.d (.s (bs p1.as_))), (.d (.sl 10 (p1.on_.map cGExpr)))]), (2, [(.d (.s (bs p0.table))), (.d (.s (bs p0.as_))), (.d (.sl 10 (p0.on_.map cGExpr)))])]⟩) (by kernel_rfl) ?_
    refine nil_in ?_
    refine next_in ?_
    refine cond_step h (by kernel_rfl) ?_ ?_
    · clear h; intro h
      refine seq_in ?_
      refine ops_in ?_
      refine sts_ok 1 (s' := ⟨[(4, (.d (.b false))), (9, (.d (.b (!decide (p0.table = p1.table))))), (8, (.d (.s (bs p1.table)))), (7, (.ptr 3 0)), (6, (.d (.s (bs p0.table)))), (5, (.ptr 2 0)), (4, (.d (.b false))), (3, (.ptr 3 0)), (2, (.ptr 2 0)), (0, (vGSource p0)), (1, (vGSource p1))], [(3, [(.d (.s (bs p1.table))), (.d (.s (bs p1.as_))), (.d (.sl 10 (p1.on_.map cGExpr)))]), (2, [(.d (.s (bs p0.table))), (.d (.s (bs p0.as_))), (.d (.sl 10 (p0.on_.map cGExpr)))])]⟩) (by kernel_rfl) ?_
      refine nil_in ?_
      refine next_in ?_
      refine ret_in ?_
      refine thenK_ret ?_
      have h := Option.some.inj h; subst h
      exact ret1_step (v := (.d (.b false))) (by kernel_rfl) (by kernel_rfl) (by kernel_rfl)
    · clear h; intro h
      refine skip_in ?_
      refine next_in ?_
      refine seq_in ?_
      refine seq_in ?_
      refine ops_in ?_
      refine sts_ok 5 (s' := ⟨[(14, (.d (.b (!decide (p0.as_ = p1.as_))))), (13, (.d (.s (bs p1.as_)))), (12, (.ptr 3 1)), (11, (.d (.s (bs p0.as_)))), (10, (.ptr 2 1)), (9, (.d (.b (!decide (p0.table = p1.table))))), (8, (.d (.s (bs p1.table)))), (7, (.ptr 3 0)), (6, (.d (.s (bs p0.table)))), (5, (.ptr 2 0)), (4, (.d (.b false))), (3, (.ptr 3 0)), (2, (.ptr 2 0)), (0, (vGSource p0)), (1, (vGSource p1))], [(3, [(.d (.s (bs p1.table))), (.d (.s (bs p1.as_))), (.d (.sl 10 (p1.on_.map cGExpr)))]), (2, [(.d (.s (bs p0.table))), (.d (.s (bs p0.as_))), (.d (.sl 10 (p0.on_.map cGExpr)))])]⟩) (by kernel_rfl) ?_
      refine nil_in ?_
      refine next_in ?_
      refine cond_step h (by kernel_rfl) ?_ ?_
      · clear h; intro h
        refine seq_in ?_
        refine ops_in ?_
        refine sts_ok 1 (s' := ⟨[(4, (.d (.b false))), (14, (.d (.b (!decide (p0.as_ = p1.as_))))), (13, (.d (.s (bs p1.as_)))), (12, (.ptr 3 1)), (11, (.d (.s (bs p0.as_)))), (10, (.ptr 2 1)), (9, (.d (.b (!decide (p0.table = p1.table))))), (8, (.d (.s (bs p1.table)))), (7, (.ptr 3 0)), (6, (.d (.s (bs p0.table)))), (5, (.ptr 2 0)), (4, (.d (.b false))), (3, (.ptr 3 0)), (2, (.ptr 2 0)), (0, (vGSource p0)), (1, (vGSource p1))], [(3, [(.d (.s (bs p1.table))), (.d (.s (bs p1.as_))), (.d (.sl 10 (p1.on_.map cGExpr)))]), (2, [(.d (.s (bs p0.table))), (.d (.s (bs p0.as_))), (.d (.sl 10 (p0.on_.map cGExpr)))])]⟩) (by kernel_rfl) ?_
        refine nil_in ?_
        refine next_in ?_
        refine ret_in ?_
        refine thenK_ret ?_
        have h := Option.some.inj h; subst h
        exact ret1_step (v := (.d (.b false))) (by kernel_rfl) (by kernel_rfl) (by kernel_rfl)
      · clear h; intro h
        refine skip_in ?_
        refine next_in ?_
        refine seq_in ?_
        refine seq_in ?_
        refine ops_in ?_
        refine sts_ok 4 (s' := ⟨[(18, (.d (.sl 10 (p1.on_.map cGExpr)))), (17, (.ptr 3 2)), (16, (.d (.sl 10 (p0.on_.map cGExpr)))), (15, (.ptr 2 2)), (14, (.d (.b (!decide (p0.as_ = p1.as_))))), (13, (.d (.s (bs p1.as_)))), (12, (.ptr 3 1)), (11, (.d (.s (bs p0.as_)))), (10, (.ptr 2 1)), (9, (.d (.b (!decide (p0.table = p1.table))))), (8, (.d (.s (bs p1.table)))), (7, (.ptr 3 0)), (6, (.d (.s (bs p0.table)))), (5, (.ptr 2 0)), (4, (.d (.b false))), (3, (.ptr 3 0)), (2, (.ptr 2 0)), (0, (vGSource p0)), (1, (vGSource p1))], [(3, [(.d (.s (bs p1.table))), (.d (.s (bs p1.as_))), (.d (.sl 10 (p1.on_.map cGExpr)))]), (2, [(.d (.s (bs p0.table))), (.d (.s (bs p0.as_))), (.d (.sl 10 (p0.on_.map cGExpr)))])]⟩) (by kernel_rfl) ?_
        refine call_step (m := F_wEqExprS p0.on_ p1.on_) (args := [(.d (.sl 10 (p0.on_.map cGExpr))), (.d (.sl 10 (p1.on_.map cGExpr)))]) (v' := (fun y => (.d (.b y)))) h (OK_wEqExprS p0.on_ p1.on_) (by kernel_rfl) (by kernel_rfl) (fun _ => rfl) ?_
        clear h; intro y1 h
        refine sts_ok 1 (s' := ⟨[(20, (.d (.b (!y1)))), (19, (.d (.b y1))), (18, (.d (.sl 10 (p1.on_.map cGExpr)))), (17, (.ptr 3 2)), (16, (.d (.sl 10 (p0.on_.map cGExpr)))), (15, (.ptr 2 2)), (14, (.d (.b (!decide (p0.as_ = p1.as_))))), (13, (.d (.s (bs p1.as_)))), (12, (.ptr 3 1)), (11, (.d (.s (bs p0.as_)))), (10, (.ptr 2 1)), (9, (.d (.b (!decide (p0.table = p1.table))))), (8, (.d (.s (bs p1.table)))), (7, (.ptr 3 0)), (6, (.d (.s (bs p0.table)))), (5, (.ptr 2 0)), (4, (.d (.b false))), (3, (.ptr 3 0)), (2, (.ptr 2 0)), (0, (vGSource p0)), (1, (vGSource p1))], [(3, [(.d (.s (bs p1.table))), (.d (.s (bs p1.as_))), (.d (.sl 10 (p1.on_.map cGExpr)))]), (2, [(.d (.s (bs p0.table))), (.d (.s (bs p0.as_))), (.d (.sl 10 (p0.on_.map cGExpr)))])]⟩) (by kernel_rfl) ?_
        refine nil_in ?_
        refine next_in ?_
        refine cond_step h (by kernel_rfl) ?_ ?_
        · clear h; intro h
          refine seq_in ?_
          refine ops_in ?_
          refine sts_ok 1 (s' := ⟨[(4, (.d (.b false))), (20, (.d (.b (!y1)))), (19, (.d (.b y1))), (18, (.d (.sl 10 (p1.on_.map cGExpr)))), (17, (.ptr 3 2)), (16, (.d (.sl 10 (p0.on_.map cGExpr)))), (15, (.ptr 2 2)), (14, (.d (.b (!decide (p0.as_ = p1.as_))))), (13, (.d (.s (bs p1.as_)))), (12, (.ptr 3 1)), (11, (.d (.s (bs p0.as_)))), (10, (.ptr 2 1)), (9, (.d (.b (!decide (p0.table = p1.table))))), (8, (.d (.s (bs p1.table)))), (7, (.ptr 3 0)), (6, (.d (.s (bs p0.table)))), (5, (.ptr 2 0)), (4, (.d (.b false))), (3, (.ptr 3 0)), (2, (.ptr 2 0)), (0, (vGSource p0)), (1, (vGSource p1))], [(3, [(.d (.s (bs p1.table))), (.d (.s (bs p1.as_))), (.d (.sl 10 (p1.on_.map cGExpr)))]), (2, [(.d (.s (bs p0.table))), (.d (.s (bs p0.as_))), (.d (.sl 10 (p0.on_.map cGExpr)))])]⟩) (by kernel_rfl) ?_
          refine nil_in ?_
          refine next_in ?_
          refine ret_in ?_
          refine thenK_ret ?_
          have h := Option.some.inj h; subst h
          exact ret1_step (v := (.d (.b false))) (by kernel_rfl) (by kernel_rfl) (by kernel_rfl)
        · clear h; intro h
          refine skip_in ?_
          refine next_in ?_
          refine seq_in ?_
          refine ops_in ?_
          refine sts_ok 1 (s' := ⟨[(4, (.d (.b true))), (20, (.d (.b (!y1)))), (19, (.d (.b y1))), (18, (.d (.sl 10 (p1.on_.map cGExpr)))), (17, (.ptr 3 2)), (16, (.d (.sl 10 (p0.on_.map cGExpr)))), (15, (.ptr 2 2)), (14, (.d (.b (!decide (p0.as_ = p1.as_))))), (13, (.d (.s (bs p1.as_)))), (12, (.ptr 3 1)), (11, (.d (.s (bs p0.as_)))), (10, (.ptr 2 1)), (9, (.d (.b (!decide (p0.table = p1.table))))), (8, (.d (.s (bs p1.table)))), (7, (.ptr 3 0)), (6, (.d (.s (bs p0.table)))), (5, (.ptr 2 0)), (4, (.d (.b false))), (3, (.ptr 3 0)), (2, (.ptr 2 0)), (0, (vGSource p0)), (1, (vGSource p1))], [(3, [(.d (.s (bs p1.table))), (.d (.s (bs p1.as_))), (.d (.sl 10 (p1.on_.map cGExpr)))]), (2, [(.d (.s (bs p0.table))), (.d (.s (bs p0.as_))), (.d (.sl 10 (p0.on_.map cGExpr)))])]⟩) (by kernel_rfl) ?_
          refine nil_in ?_
          refine next_in ?_
          refine ret_in ?_
          have h := Option.some.inj h; subst h
          exact ret1_step (v := (.d (.b true))) (by kernel_rfl) (by kernel_rfl) (by kernel_rfl)
  · intro F_wEqExprS_L0 OK_wEqExprS_L0 p0 p1 r h
    refine acalls_of_fn trwEqExprS (Nat.le_of_ble_eq_true rfl) (by simp) ?_
    show avc Try.prog acwEqExprS (qwEqExprS _) ⟨[(0, (.d (.sl 10 (p0.map cGExpr)))), (1, (.d (.sl 10 (p1.map cGExpr))))], []⟩
    delta acwEqExprS
    refine seq_in ?_
    refine ops_in ?_
    refine sts_ok 1 (s' := ⟨[(4, (.d (.b false))), (0, (.d (.sl 10 (p0.map cGExpr)))), (1, (.d (.sl 10 (p1.map cGExpr))))], []⟩) (by kernel_rfl) ?_
    refine nil_in ?_
    refine next_in ?_
    refine seq_in ?_
    refine seq_in ?_
    refine ops_in ?_
    refine sts_ok 1 (s' := ⟨[(6, (.d (.sl 10 (p0.map cGExpr)))), (4, (.d (.b false))), (0, (.d (.sl 10 (p0.map cGExpr)))), (1, (.d (.sl 10 (p1.map cGExpr))))], []⟩) (by kernel_rfl) ?_
    refine p_step (v' := (.d (.i .i64 (p0.length : Int)))) rfl rfl (vop_len (sz := 10) (l := p0) (f := cGExpr) (by kernel_rfl) (by kernel_rfl)) ?_
    refine sts_ok 1 (s' := ⟨[(8, (.d (.sl 10 (p1.map cGExpr)))), (7, (.d (.i .i64 (p0.length : Int)))), (6, (.d (.sl 10 (p0.map cGExpr)))), (4, (.d (.b false))), (0, (.d (.sl 10 (p0.map cGExpr)))), (1, (.d (.sl 10 (p1.map cGExpr))))], []⟩) (by kernel_rfl) ?_
    refine p_step (v' := (.d (.i .i64 (p1.length : Int)))) rfl rfl (vop_len (sz := 10) (l := p1) (f := cGExpr) (by kernel_rfl) (by kernel_rfl)) ?_
    refine sts_ok 1 (s' := ⟨[(10, (.d (.b (!decide ((p0.length : Int) = (p1.length : Int)))))), (9, (.d (.i .i64 (p1.length : Int)))), (8, (.d (.sl 10 (p1.map cGExpr)))), (7, (.d (.i .i64 (p0.length : Int)))), (6, (.d (.sl 10 (p0.map cGExpr)))), (4, (.d (.b false))), (0, (.d (.sl 10 (p0.map cGExpr)))), (1, (.d (.sl 10 (p1.map cGExpr))))], []⟩) (by kernel_rfl) ?_
    refine nil_in ?_
    refine next_in ?_
    refine cond_step h (by kernel_rfl) ?_ ?_
    · clear h; intro h
      refine seq_in ?_
      refine ops_in ?_
      refine sts_ok 1 (s' := ⟨[(4, (.d (.b false))), (10, (.d (.b (!decide ((p0.length : Int) = (p1.length : Int)))))), (9, (.d (.i .i64 (p1.length : Int)))), (8, (.d (.sl 10 (p1.map cGExpr)))), (7, (.d (.i .i64 (p0.length : Int)))), (6, (.d (.sl 10 (p0.map cGExpr)))), (4, (.d (.b false))), (0, (.d (.sl 10 (p0.map cGExpr)))), (1, (.d (.sl 10 (p1.map cGExpr))))], []⟩) (by kernel_rfl) ?_
      refine nil_in ?_
      refine next_in ?_
      refine ret_in ?_
      refine thenK_ret ?_
      have h := Option.some.inj h; subst h
      exact ret1_step (v := (.d (.b false))) (by kernel_rfl) (by kernel_rfl) (by kernel_rfl)
    · clear h; intro h
      refine skip_in ?_
      refine next_in ?_
      refine seq_in ?_
      refine seq_in ?_
      refine ops_in ?_
      refine sts_ok 1 (s' := ⟨[(5, (.d (.i .i64 0))), (10, (.d (.b (!decide ((p0.length : Int) = (p1.length : Int)))))), (9, (.d (.i .i64 (p1.length : Int)))), (8, (.d (.sl 10 (p1.map cGExpr)))), (7, (.d (.i .i64 (p0.length : Int)))), (6, (.d (.sl 10 (p0.map cGExpr)))), (4, (.d (.b false))), (0, (.d (.sl 10 (p0.map cGExpr)))), (1, (.d (.sl 10 (p1.map cGExpr))))], []⟩) (by kernel_rfl) ?_
      refine nil_in ?_
      refine next_in ?_
      refine block_in ?_
      exact loop_go (s' := stwEqExprS_L0 p0 p1 0) (wk_ren [] (by kernel_rfl) (er_cons (vr_same (by kernel_rfl) (by kernel_rfl)) (er_cons (vr_same (by kernel_rfl) (by kernel_rfl)) (er_cons (vr_same (by kernel_rfl) (by kernel_rfl)) (er_nil)))) (br_nil)) (OK_wEqExprS_L0 p0 p1 0 _ h)
  · intro F_wEqExprS_L0 F_wEqExpr OK_wEqExprS_L0 OK_wEqExpr p0 p1 x5 r h
    delta acwEqExprS_L0
    refine loop_unroll ?_
    refine seq_in ?_
    refine seq_in ?_
    refine ops_in ?_
    refine sts_ok 2 (s' := ⟨(12, (.d (.sl 10 (p0.map cGExpr)))) :: (11, (.d (.i .i64 x5))) :: (stwEqExprS_L0 p0 p1 x5).env, (stwEqExprS_L0 p0 p1 x5).bx⟩) (by kernel_rfl) ?_
    refine p_step (v' := (.d (.i .i64 (p0.length : Int)))) rfl rfl (vop_len (sz := 10) (l := p0) (f := cGExpr) (by kernel_rfl) (by kernel_rfl)) ?_
    refine sts_ok 1 (s' := ⟨(14, (.d (.b (decide (x5 < (p0.length : Int)))))) :: (13, (.d (.i .i64 (p0.length : Int)))) :: (12, (.d (.sl 10 (p0.map cGExpr)))) :: (11, (.d (.i .i64 x5))) :: (stwEqExprS_L0 p0 p1 x5).env, (stwEqExprS_L0 p0 p1 x5).bx⟩) (by kernel_rfl) ?_
    refine nil_in ?_
    refine next_in ?_
    refine cond_step h (by kernel_rfl) ?_ ?_
    · clear h; intro h
      refine skip_in ?_
      refine next_in ?_
      refine seq_in ?_
      refine block_in ?_
      refine seq_in ?_
      refine dops_in ?_
      refine dsts_ok 2 (s' := ⟨(18, (.d (.i .i64 x5))) :: (17, (.d (.sl 10 (p0.map cGExpr)))) :: (14, (.d (.b (decide (x5 < (p0.length : Int)))))) :: (13, (.d (.i .i64 (p0.length : Int)))) :: (12, (.d (.sl 10 (p0.map cGExpr)))) :: (11, (.d (.i .i64 x5))) :: (stwEqExprS_L0 p0 p1 x5).env, (stwEqExprS_L0 p0 p1 x5).bx⟩) (by kernel_rfl) ?_
      refine dv_step (m := idx p0 x5) (v' := fun y => (.rp [(.i .i64 y.kind), (.i .i64 y.op), (.b y.not_), (.i .i64 y.value.kind), (.i .i64 y.value.num), (.s (bs y.value.text)), (.s (bs y.qual)), (.s (bs y.name)), (.sl 10 (y.kids.map cGExpr)), (.sl 6 (y.sub.map cGQuery))])) h rfl rfl (fun y hy => vop_ia (l := p0) (f := cGExpr) (g := oGExpr) (k := .i64) hy cGExpr_eq (by kernel_rfl) (by kernel_rfl) (by kernel_rfl)) ?_
      clear h; intro y1 h
      refine dsts_ok 3 (s' := ⟨(22, (.d (.i .i64 x5))) :: (21, (.d (.sl 10 (p1.map cGExpr)))) :: (20, (vGExpr y1)) :: (19, (.rp [(.i .i64 y1.kind), (.i .i64 y1.op), (.b y1.not_), (.i .i64 y1.value.kind), (.i .i64 y1.value.num), (.s (bs y1.value.text)), (.s (bs y1.qual)), (.s (bs y1.name)), (.sl 10 (y1.kids.map cGExpr)), (.sl 6 (y1.sub.map cGQuery))])) :: (18, (.d (.i .i64 x5))) :: (17, (.d (.sl 10 (p0.map cGExpr)))) :: (14, (.d (.b (decide (x5 < (p0.length : Int)))))) :: (13, (.d (.i .i64 (p0.length : Int)))) :: (12, (.d (.sl 10 (p0.map cGExpr)))) :: (11, (.d (.i .i64 x5))) :: (stwEqExprS_L0 p0 p1 x5).env, (stwEqExprS_L0 p0 p1 x5).bx⟩) (by kernel_rfl) ?_
      refine dv_step (m := idx p1 x5) (v' := fun y => (.rp [(.i .i64 y.kind), (.i .i64 y.op), (.b y.not_), (.i .i64 y.value.kind), (.i .i64 y.value.num), (.s (bs y.value.text)), (.s (bs y.qual)), (.s (bs y.name)), (.sl 10 (y.kids.map cGExpr)), (.sl 6 (y.sub.map cGQuery))])) h rfl rfl (fun y hy => vop_ia (l := p1) (f := cGExpr) (g := oGExpr) (k := .i64) hy cGExpr_eq (by kernel_rfl) (by kernel_rfl) (by kernel_rfl)) ?_
      clear h; intro y2 h
      refine dsts_ok 1 (s' := ⟨(24, (vGExpr y2)) :: (23, (.rp [(.i .i64 y2.kind), (.i .i64 y2.op), (.b y2.not_), (.i .i64 y2.value.kind), (.i .i64 y2.value.num), (.s (bs y2.value.text)), (.s (bs y2.qual)), (.s (bs y2.name)), (.sl 10 (y2.kids.map cGExpr)), (.sl 6 (y2.sub.map cGQuery))])) :: (22, (.d (.i .i64 x5))) :: (21, (.d (.sl 10 (p1.map cGExpr)))) :: (20, (vGExpr y1)) :: (19, (.rp [(.i .i64 y1.kind), (.i .i64 y1.op), (.b y1.not_), (.i .i64 y1.value.kind), (.i .i64 y1.value.num), (.s (bs y1.value.text)), (.s (bs y1.qual)), (.s (bs y1.name)), (.sl 10 (y1.kids.map cGExpr)), (.sl 6 (y1.sub.map cGQuery))])) :: (18, (.d (.i .i64 x5))) :: (17, (.d (.sl 10 (p0.map cGExpr)))) :: (14, (.d (.b (decide (x5 < (p0.length : Int)))))) :: (13, (.d (.i .i64 (p0.length : Int)))) :: (12, (.d (.sl 10 (p0.map cGExpr)))) :: (11, (.d (.i .i64 x5))) :: (stwEqExprS_L0 p0 p1 x5).env, (stwEqExprS_L0 p0 p1 x5).bx⟩) (by kernel_rfl) ?_
      refine dcall_step (m := F_wEqExpr y1 y2) (args := [(vGExpr y1), (vGExpr y2)]) (v' := (fun y => (.d (.b y)))) h (OK_wEqExpr y1 y2) (by kernel_rfl) (by kernel_rfl) (fun _ => rfl) ?_
      clear h; intro y3 h
      refine dsts_ok 1 (s' := ⟨(26, (.d (.b (!y3)))) :: (25, (.d (.b y3))) :: (24, (vGExpr y2)) :: (23, (.rp [(.i .i64 y2.kind), (.i .i64 y2.op), (.b y2.not_), (.i .i64 y2.value.kind), (.i .i64 y2.value.num), (.s (bs y2.value.text)), (.s (bs y2.qual)), (.s (bs y2.name)), (.sl 10 (y2.kids.map cGExpr)), (.sl 6 (y2.sub.map cGQuery))])) :: (22, (.d (.i .i64 x5))) :: (21, (.d (.sl 10 (p1.map cGExpr)))) :: (20, (vGExpr y1)) :: (19, (.rp [(.i .i64 y1.kind), (.i .i64 y1.op), (.b y1.not_), (.i .i64 y1.value.kind), (.i .i64 y1.value.num), (.s (bs y1.value.text)), (.s (bs y1.qual)), (.s (bs y1.name)), (.sl 10 (y1.kids.map cGExpr)), (.sl 6 (y1.sub.map cGQuery))])) :: (18, (.d (.i .i64 x5))) :: (17, (.d (.sl 10 (p0.map cGExpr)))) :: (14, (.d (.b (decide (x5 < (p0.length : Int)))))) :: (13, (.d (.i .i64 (p0.length : Int)))) :: (12, (.d (.sl 10 (p0.map cGExpr)))) :: (11, (.d (.i .i64 x5))) :: (stwEqExprS_L0 p0 p1 x5).env, (stwEqExprS_L0 p0 p1 x5).bx⟩) (by kernel_rfl) ?_
      refine dnil_in (by kernel_rfl) (by kernel_rfl) ?_
      refine next_in ?_
      refine cond_step h (by kernel_rfl) ?_ ?_
      · clear h; intro h
        refine seq_in ?_
        refine ops_in ?_
        refine sts_ok 1 (s' := ⟨(4, (.d (.b false))) :: (26, (.d (.b (!y3)))) :: (25, (.d (.b y3))) :: (24, (vGExpr y2)) :: (23, (.rp [(.i .i64 y2.kind), (.i .i64 y2.op), (.b y2.not_), (.i .i64 y2.value.kind), (.i .i64 y2.value.num), (.s (bs y2.value.text)), (.s (bs y2.qual)), (.s (bs y2.name)), (.sl 10 (y2.kids.map cGExpr)), (.sl 6 (y2.sub.map cGQuery))])) :: (22, (.d (.i .i64 x5))) :: (21, (.d (.sl 10 (p1.map cGExpr)))) :: (20, (vGExpr y1)) :: (19, (.rp [(.i .i64 y1.kind), (.i .i64 y1.op), (.b y1.not_), (.i .i64 y1.value.kind), (.i .i64 y1.value.num), (.s (bs y1.value.text)), (.s (bs y1.qual)), (.s (bs y1.name)), (.sl 10 (y1.kids.map cGExpr)), (.sl 6 (y1.sub.map cGQuery))])) :: (18, (.d (.i .i64 x5))) :: (17, (.d (.sl 10 (p0.map cGExpr)))) :: (14, (.d (.b (decide (x5 < (p0.length : Int)))))) :: (13, (.d (.i .i64 (p0.length : Int)))) :: (12, (.d (.sl 10 (p0.map cGExpr)))) :: (11, (.d (.i .i64 x5))) :: (stwEqExprS_L0 p0 p1 x5).env, (stwEqExprS_L0 p0 p1 x5).bx⟩) (by kernel_rfl) ?_
        refine nil_in ?_
        refine next_in ?_
        refine ret_in ?_
        refine blockK_ret ?_
        refine thenK_ret ?_
        refine thenK_ret ?_
        refine blockK_ret ?_
        refine thenK_ret ?_
        have h := Option.some.inj h; subst h
        exact ret1_step (v := (.d (.b false))) (by kernel_rfl) (by kernel_rfl) (by kernel_rfl)
      · clear h; intro h
        refine skip_in ?_
        refine blockK_norm ?_
        refine next_in ?_
        refine ops_in ?_
        refine sts_ok 3 (s' := ⟨(5, (.d (.i .i64 (IntKind.wrap .i64 (x5 + 1))))) :: (16, (.d (.i .i64 (IntKind.wrap .i64 (x5 + 1))))) :: (15, (.d (.i .i64 x5))) :: (26, (.d (.b (!y3)))) :: (25, (.d (.b y3))) :: (24, (vGExpr y2)) :: (23, (.rp [(.i .i64 y2.kind), (.i .i64 y2.op), (.b y2.not_), (.i .i64 y2.value.kind), (.i .i64 y2.value.num), (.s (bs y2.value.text)), (.s (bs y2.qual)), (.s (bs y2.name)), (.sl 10 (y2.kids.map cGExpr)), (.sl 6 (y2.sub.map cGQuery))])) :: (22, (.d (.i .i64 x5))) :: (21, (.d (.sl 10 (p1.map cGExpr)))) :: (20, (vGExpr y1)) :: (19, (.rp [(.i .i64 y1.kind), (.i .i64 y1.op), (.b y1.not_), (.i .i64 y1.value.kind), (.i .i64 y1.value.num), (.s (bs y1.value.text)), (.s (bs y1.qual)), (.s (bs y1.name)), (.sl 10 (y1.kids.map cGExpr)), (.sl 6 (y1.sub.map cGQuery))])) :: (18, (.d (.i .i64 x5))) :: (17, (.d (.sl 10 (p0.map cGExpr)))) :: (14, (.d (.b (decide (x5 < (p0.length : Int)))))) :: (13, (.d (.i .i64 (p0.length : Int)))) :: (12, (.d (.sl 10 (p0.map cGExpr)))) :: (11, (.d (.i .i64 x5))) :: (stwEqExprS_L0 p0 p1 x5).env, (stwEqExprS_L0 p0 p1 x5).bx⟩) (by kernel_rfl) ?_
        refine nil_in ?_
        exact loop_back (s' := stwEqExprS_L0 p0 p1 (IntKind.wrap .i64 (x5 + 1))) (wk_ren [] (by kernel_rfl) (er_cons (vr_same (by kernel_rfl) (by kernel_rfl)) (er_cons (vr_same (by kernel_rfl) (by kernel_rfl)) (er_cons (vr_same (by kernel_rfl) (by kernel_rfl)) (er_nil)))) (br_nil)) (OK_wEqExprS_L0 p0 p1 (IntKind.wrap .i64 (x5 + 1)) _ h)
    · clear h; intro h
      refine exit_in ?_
      refine thenK_exit ?_
      refine thenK_exit ?_
      refine blockK_here ?_
      refine next_in ?_
      refine seq_in ?_
      refine ops_in ?_
      refine sts_ok 1 (s' := ⟨(4, (.d (.b true))) :: (14, (.d (.b (decide (x5 < (p0.length : Int)))))) :: (13, (.d (.i .i64 (p0.length : Int)))) :: (12, (.d (.sl 10 (p0.map cGExpr)))) :: (11, (.d (.i .i64 x5))) :: (stwEqExprS_L0 p0 p1 x5).env, (stwEqExprS_L0 p0 p1 x5).bx⟩) (by kernel_rfl) ?_
      refine nil_in ?_
      refine next_in ?_
      refine ret_in ?_
      have h := Option.some.inj h; subst h
      exact ret1_step (v := (.d (.b true))) (by kernel_rfl) (by kernel_rfl) (by kernel_rfl)
  · intro F_wEqExprS F_wEqQueryS OK_wEqExprS OK_wEqQueryS p0 p1 r h
    refine acalls_of_fn trwEqExpr (Nat.le_of_ble_eq_true rfl) (by simp) ?_
    show avc Try.prog acwEqExpr (qwEqExpr _) ⟨[(0, (vGExpr p0)), (1, (vGExpr p1))], []⟩
    delta acwEqExpr
    refine seq_in ?_
    refine ops_in ?_
    refine sts_ok 3 (s' := ⟨[(4, (.d (.b false))), (3, (.ptr 3 0)), (2, (.ptr 2 0)), (0, (vGExpr p0)), (1, (vGExpr p1))], [(3, [(.d (.i .i64 p1.kind)), (.d (.i .i64 p1.op)), (.d (.b p1.not_)), (.d (.i .i64 p1.value.kind)), (.d (.i .i64 p1.value.num)), (.d (.s (bs p1.value.text))), (.d (.s (bs p1.qual))), (.d (.s (bs p1.name))), (.d (.sl 10 (p1.kids.map cGExpr))), (.d (.sl 6 (p1.sub.map cGQuery)))]), (2, [(.d (.i .i64 p0.kind)), (.d (.i .i64 p0.op)), (.d (.b p0.not_)), (.d (.i .i64 p0.value.kind)), (.d (.i .i64 p0.value.num)), (.d (.s (bs p0.value.text))), (.d (.s (bs p0.qual))), (.d (.s (bs p0.name))), (.d (.sl 10 (p0.kids.map cGExpr))), (.d (.sl 6 (p0.sub.map cGQuery)))])]⟩) (by kernel_rfl) ?_
    refine nil_in ?_
    refine next_in ?_
    refine seq_in ?_
    refine seq_in ?_
    refine ops_in ?_
    refine sts_ok 5 (s' := ⟨[(9, (.d (.b (!decide (p0.kind = p1.kind))))), (8, (.d (.i .i64 p1.kind))), (7, (.ptr 3 0)), (6, (.d (.i .i64 p0.kind))), (5, (.ptr 2 0)), (4, (.d (.b false))), (3, (.ptr 3 0)), (2, (.ptr 2 0)), (0, (vGExpr p0)), (1, (vGExpr p1))], [(3, [(.d (.i .i64 p1.kind)), (.d (.i .i64 p1.op)), (.d (.b p1.not_)), (.d (.i .i64 p1.value.kind)), (.d (.i .i64 p1.value.num)), (.d (.s (bs p1.value.text))), (.d (.s (bs p1.qual))), (.d (.s (bs p1.name))), (.d (.sl 10 (p1.kids.map cGExpr))), (.d (.sl 6 (p1.sub.map cGQuery)))]), (2, [(.d (.i .i64 p0.kind)), (.d (.i .i64 p0.op)), (.d (.b p0.not_)), (.d (.i .i64 p0.value.kind)), (.d (.i .i64 p0.value.num)), (.d (.s (bs p0.value.text))), (.d (.s (bs p0.qual))), (.d (.s (bs p0.name))), (.d (.sl 10 (p0.kids.map cGExpr))), (.d (.sl 6 (p0.sub.map cGQuery)))])]⟩) (by kernel_rfl) ?_
    refine nil_in ?_
    refine next_in ?_
    refine cond_step h (by kernel_rfl) ?_ ?_
    · clear h; intro h
      refine seq_in ?_
      refine ops_in ?_
      refine sts_ok 1 (s' := ⟨[(4, (.d (.b false))), (9, (.d (.b (!decide (p0.kind = p1.kind))))), (8, (.d (.i .i64 p1.kind))), (7, (.ptr 3 0)), (6, (.d (.i .i64 p0.kind))), (5, (.ptr 2 0)), (4, (.d (.b false))), (3, (.ptr 3 0)), (2, (.ptr 2 0)), (0, (vGExpr p0)), (1, (vGExpr p1))], [(3, [(.d (.i .i64 p1.kind)), (.d (.i .i64 p1.op)), (.d (.b p1.not_)), (.d (.i .i64 p1.value.kind)), (.d (.i .i64 p1.value.num)), (.d (.s (bs p1.value.text))), (.d (.s (bs p1.qual))), (.d (.s (bs p1.name))), (.d (.sl 10 (p1.kids.map cGExpr))), (.d (.sl 6 (p1.sub.map cGQuery)))]), (2, [(.d (.i .i64 p0.kind)), (.d (.i .i64 p0.op)), (.d (.b p0.not_)), (.d (.i .i64 p0.value.kind)), (.d (.i .i64 p0.value.num)), (.d (.s (bs p0.value.text))), (.d (.s (bs p0.qual))), (.d (.s (bs p0.name))), (.d (.sl 10 (p0.kids.map cGExpr))), (.d (.sl 6 (p0.sub.map cGQuery)))])]⟩) (by kernel_rfl) ?_
      refine nil_in ?_
      refine next_in ?_
      refine ret_in ?_
      refine thenK_ret ?_
      have h := Option.some.inj h; subst h
      exact ret1_step (v := (.d (.b false))) (by kernel_rfl) (by kernel_rfl) (by kernel_rfl)
    · clear h; intro h
      refine skip_in ?_
      refine next_in ?_
      refine seq_in ?_
      refine seq_in ?_
      refine ops_in ?_
      refine sts_ok 5 (s' := ⟨[(14, (.d (.b (!decide (p0.op = p1.op))))), (13, (.d (.i .i64 p1.op))), (12, (.ptr 3 1)), (11, (.d (.i .i64 p0.op))), (10, (.ptr 2 1)), (9, (.d (.b (!decide (p0.kind = p1.kind))))), (8, (.d (.i .i64 p1.kind))), (7, (.ptr 3 0)), (6, (.d (.i .i64 p0.kind))), (5, (.ptr 2 0)), (4, (.d (.b false))), (3, (.ptr 3 0)), (2, (.ptr 2 0)), (0, (vGExpr p0)), (1, (vGExpr p1))], [(3, [(.d (.i .i64 p1.kind)), (.d (.i .i64 p1.op)), (.d (.b p1.not_)), (.d (.i .i64 p1.value.kind)), (.d (.i .i64 p1.value.num)), (.d (.s (bs p1.value.text))), (.d (.s (bs p1.qual))), (.d (.s (bs p1.name))), (.d (.sl 10 (p1.kids.map cGExpr))), (.d (.sl 6 (p1.sub.map cGQuery)))]), (2, [(.d (.i .i64 p0.kind)), (.d (.i .i64 p0.op)), (.d (.b p0.not_)), (.d (.i .i64 p0.value.kind)), (.d (.i .i64 p0.value.num)), (.d (.s (bs p0.value.text))), (.d (.s (bs p0.qual))), (.d (.s (bs p0.name))), (.d (.sl 10 (p0.kids.map cGExpr))), (.d (.sl 6 (p0.sub.map cGQuery)))])]⟩) (by kernel_rfl) ?_
      refine nil_in ?_
      refine next_in ?_
      refine cond_step h (by kernel_rfl) ?_ ?_
      · clear h; intro h
        refine seq_in ?_
        refine ops_in ?_
        refine sts_ok 1 (s' := ⟨[(4, (.d (.b false))), (14, (.d (.b (!decide (p0.op = p1.op))))), (13, (.d (.i .i64 p1.op))), (12, (.ptr 3 1)), (11, (.d (.i .i64 p0.op))), (10, (.ptr 2 1)), (9, (.d (.b (!decide (p0.kind = p1.kind))))), (8, (.d (.i .i64 p1.kind))), (7, (.ptr 3 0)), (6, (.d (.i .i64 p0.kind))), (5, (.ptr 2 0)), (4, (.d (.b false))), (3, (.ptr 3 0)), (2, (.ptr 2 0)), (0, (vGExpr p0)), (1, (vGExpr p1))], [(3, [(.d (.i .i64 p1.kind)), (.d (.i .i64 p1.op)), (.d (.b p1.not_)), (.d (.i .i64 p1.value.kind)), (.d (.i .i64 p1.value.num)), (.d (.s (bs p1.value.text))), (.d (.s (bs p1.qual))), (.d (.s (bs p1.name))), (.d (.sl 10 (p1.kids.map cGExpr))), (.d (.sl 6 (p1.sub.map cGQuery)))]), (2, [(.d (.i .i64 p0.kind)), (.d (.i .i64 p0.op)), (.d (.b p0.not_)), (.d (.i .i64 p0.value.kind)), (.d (.i .i64 p0.value.num)), (.d (.s (bs p0.value.text))), (.d (.s (bs p0.qual))), (.d (.s (bs p0.name))), (.d (.sl 10 (p0.kids.map cGExpr))), (.d (.sl 6 (p0.sub.map cGQuery)))])]⟩) (by kernel_rfl) ?_
        refine nil_in ?_
        refine next_in ?_
        refine ret_in ?_
        refine thenK_ret ?_
        have h := Option.some.inj h; subst h
        exact ret1_step (v := (.d (.b false))) (by kernel_rfl) (by kernel_rfl) (by kernel_rfl)
      · clear h; intro h
        refine skip_in ?_
        refine next_in ?_
        refine seq_in ?_
        refine seq_in ?_
        refine ops_in ?_
        refine sts_ok 5 (s' := ⟨[(19, (.d (.b (!(p0.not_ == p1.not_))))), (18, (.d (.b p1.not_))), (17, (.ptr 3 2)), (16, (.d (.b p0.not_))), (15, (.ptr 2 2)), (14, (.d (.b (!decide (p0.op = p1.op))))), (13, (.d (.i .i64 p1.op))), (12, (.ptr 3 1)), (11, (.d (.i .i64 p0.op))), (10, (.ptr 2 1)), (9, (.d (.b (!decide (p0.kind = p1.kind))))), (8, (.d (.i .i64 p1.kind))), (7, (.ptr 3 0)), (6, (.d (.i .i64 p0.kind))), (5, (.ptr 2 0)), (4, (.d (.b false))), (3, (.ptr 3 0)), (2, (.ptr 2 0)), (0, (vGExpr p0)), (1, (vGExpr p1))], [(3, [(.d (.i .i64 p1.kind)), (.d (.i .i64 p1.op)), (.d (.b p1.not_)), (.d (.i .i64 p1.value.kind)), (.d (.i .i64 p1.value.num)), (.d (.s (bs p1.value.text))), (.d (.s (bs p1.qual))), (.d (.s (bs p1.name))), (.d (.sl 10 (p1.kids.map cGExpr))), (.d (.sl 6 (p1.sub.map cGQuery)))]), (2, [(.d (.i .i64 p0.kind)), (.d (.i .i64 p0.op)), (.d (.b p0.not_)), (.d (.i .i64 p0.value.kind)), (.d (.i .i64 p0.value.num)), (.d (.s (bs p0.value.text))), (.d (.s (bs p0.qual))), (.d (.s (bs p0.name))), (.d (.sl 10 (p0.kids.map cGExpr))), (.d (.sl 6 (p0.sub.map cGQuery)))])]⟩) (by kernel_rfl) ?_
        refine nil_in ?_
        refine next_in ?_
        refine cond_step h (by kernel_rfl) ?_ ?_
        · clear h; intro h
          refine seq_in ?_
          refine ops_in ?_
          refine sts_ok 1 (s' := ⟨[(4, (.d (.b false))), (19, (.d (.b (!(p0.not_ == p1.not_))))), (18, (.d (.b p1.not_))), (17, (.ptr 3 2)), (16, (.d (.b p0.not_))), (15, (.ptr 2 2)), (14, (.d (.b (!decide (p0.op = p1.op))))), (13, (.d (.i .i64 p1.op))), (12, (.ptr 3 1)), (11, (.d (.i .i64 p0.op))), (10, (.ptr 2 1)), (9, (.d (.b (!decide (p0.kind = p1.kind))))), (8, (.d (.i .i64 p1.kind))), (7, (.ptr 3 0)), (6, (.d (.i .i64 p0.kind))), (5, (.ptr 2 0)), (4, (.d (.b false))), (3, (.ptr 3 0)), (2, (.ptr 2 0)), (0, (vGExpr p0)), (1, (vGExpr p1))], [(3, [(.d (.i .i64 p1.kind)), (.d (.i .i64 p1.op)), (.d (.b p1.not_)), (.d (.i .i64 p1.value.kind)), (.d (.i .i64 p1.value.num)), (.d (.s (bs p1.value.text))), (.d (.s (bs p1.qual))), (.d (.s (bs p1.name))), (.d (.sl 10 (p1.kids.map cGExpr))), (.d (.sl 6 (p1.sub.map cGQuery)))]), (2, [(.d (.i .i64 p0.kind)), (.d (.i .i64 p0.op)), (.d (.b p0.not_)), (.d (.i .i64 p0.value.kind)), (.d (.i .i64 p0.value.num)), (.d (.s (bs p0.value.text))), (.d (.s (bs p0.qual))), (.d (.s (bs p0.name))), (.d (.sl 10 (p0.kids.map cGExpr))), (.d (.sl 6 (p0.sub.map cGQuery)))])]⟩) (by kernel_rfl) ?_
          refine nil_in ?_
          refine next_in ?_
          refine ret_in ?_
          refine thenK_ret ?_
          have h := Option.some.inj h; subst h
          exact ret1_step (v := (.d (.b false))) (by kernel_rfl) (by kernel_rfl) (by kernel_rfl)
        · clear h; intro h
          refine skip_in ?_
          refine next_in ?_
          refine seq_in ?_
          refine seq_in ?_
          refine ops_in ?_
          refine sts_ok 4 (s' := ⟨[(23, (vGValue p1.value)), (22, (.ptr 3 3)), (21, (vGValue p0.value)), (20, (.ptr 2 3)), (19, (.d (.b (!(p0.not_ == p1.not_))))), (18, (.d (.b p1.not_))), (17, (.ptr 3 2)), (16, (.d (.b p0.not_))), (15, (.ptr 2 2)), (14, (.d (.b (!decide (p0.op = p1.op))))), (13, (.d (.i .i64 p1.op))), (12, (.ptr 3 1)), (11, (.d (.i .i64 p0.op))), (10, (.ptr 2 1)), (9, (.d (.b (!decide (p0.kind = p1.kind))))), (8, (.d (.i .i64 p1.kind))), (7, (.ptr 3 0)), (6, (.d (.i .i64 p0.kind))), (5, (.ptr 2 0)), (4, (.d (.b false))), (3, (.ptr 3 0)), (2, (.ptr 2 0)), (0, (vGExpr p0)), (1, (vGExpr p1))], [(3, [(.d (.i .i64 p1.kind)), (.d (.i .i64 p1.op)), (.d (.b p1.not_)), (.d (.i .i64 p1.value.kind)), (.d (.i .i64 p1.value.num)), (.d (.s (bs p1.value.text))), (.d (.s (bs p1.qual))), (.d (.s (bs p1.name))), (.d (.sl 10 (p1.kids.map cGExpr))), (.d (.sl 6 (p1.sub.map cGQuery)))]), (2, [(.d (.i .i64 p0.kind)), (.d (.i .i64 p0.op)), (.d (.b p0.not_)), (.d (.i .i64 p0.value.kind)), (.d (.i .i64 p0.value.num)), (.d (.s (bs p0.value.text))), (.d (.s (bs p0.qual))), (.d (.s (bs p0.name))), (.d (.sl 10 (p0.kids.map cGExpr))), (.d (.sl 6 (p0.sub.map cGQuery)))])]⟩) (by kernel_rfl) ?_
          refine call_step (m := wEqValue p0.value p1.value) (args := [(vGValue p0.value), (vGValue p1.value)]) (v' := (fun y => (.d (.b y)))) h (OK_wEqValue p0.value p1.value) (by kernel_rfl) (by kernel_rfl) (fun _ => rfl) ?_
          clear h; intro y1 h
          refine sts_ok 1 (s' := ⟨[(25, (.d (.b (!y1)))), (24, (.d (.b y1))), (23, (vGValue p1.value)), (22, (.ptr 3 3)), (21, (vGValue p0.value)), (20, (.ptr 2 3)), (19, (.d (.b (!(p0.not_ == p1.not_))))), (18, (.d (.b p1.not_))), (17, (.ptr 3 2)), (16, (.d (.b p0.not_))), (15, (.ptr 2 2)), (14, (.d (.b (!decide (p0.op = p1.op))))), (13, (.d (.i .i64 p1.op))), (12, (.ptr 3 1)), (11, (.d (.i .i64 p0.op))), (10, (.ptr 2 1)), (9, (.d (.b (!decide (p0.kind = p1.kind))))), (8, (.d (.i .i64 p1.kind))), (7, (.ptr 3 0)), (6, (.d (.i .i64 p0.kind))), (5, (.ptr 2 0)), (4, (.d (.b false))), (3, (.ptr 3 0)), (2, (.ptr 2 0)), (0, (vGExpr p0)), (1, (vGExpr p1))], [(3, [(.d (.i .i64 p1.kind)), (.d (.i .i64 p1.op)), (.d (.b p1.not_)), (.d (.i .i64 p1.value.kind)), (.d (.i .i64 p1.value.num)), (.d (.s (bs p1.value.text))), (.d (.s (bs p1.qual))), (.d (.s (bs p1.name))), (.d (.sl 10 (p1.kids.map cGExpr))), (.d (.sl 6 (p1.sub.map cGQuery)))]), (2, [(.d (.i .i64 p0.kind)), (.d (.i .i64 p0.op)), (.d (.b p0.not_)), (.d (.i .i64 p0.value.kind)), (.d (.i .i64 p0.value.num)), (.d (.s (bs p0.value.text))), (.d (.s (bs p0.qual))), (.d (.s (bs p0.name))), (.d (.sl 10 (p0.kids.map cGExpr))), (.d (.sl 6 (p0.sub.map cGQuery)))])]⟩) (by kernel_rfl) ?_
          refine nil_in ?_
          refine next_in ?_
          refine cond_step h (by kernel_rfl) ?_ ?_
          · clear h; intro h
            refine seq_in ?_
            refine ops_in ?_
            refine sts_ok 1 (s' := ⟨[(4, (.d (.b false))), (25, (.d (.b (!y1)))), (24, (.d (.b y1))), (23, (vGValue p1.value)), (22, (.ptr 3 3)), (21, (vGValue p0.value)), (20, (.ptr 2 3)), (19, (.d (.b (!(p0.not_ == p1.not_))))), (18, (.d (.b p1.not_))), (17, (.ptr 3 2)), (16, (.d (.b p0.not_))), (15, (.ptr 2 2)), (14, (.d (.b (!decide (p0.op = p1.op))))), (13, (.d (.i .i64 p1.op))), (12, (.ptr 3 1)), (11, (.d (.i .i64 p0.op))), (10, (.ptr 2 1)), (9, (.d (.b (!decide (p0.kind = p1.kind))))), (8, (.d (.i .i64 p1.kind))), (7, (.ptr 3 0)), (6, (.d (.i .i64 p0.kind))), (5, (.ptr 2 0)), (4, (.d (.b false))), (3, (.ptr 3 0)), (2, (.ptr 2 0)), (0, (vGExpr p0)), (1, (vGExpr p1))], [(3, [(.d (.i .i64 p1.kind)), (.d (.i .i64 p1.op)), (.d (.b p1.not_)), (.d (.i .i64 p1.value.kind)), (.d (.i .i64 p1.value.num)), (.d (.s (bs p1.value.text))), (.d (.s (bs p1.qual))), (.d (.s (bs p1.name))), (.d (.sl 10 (p1.kids.map cGExpr))), (.d (.sl 6 (p1.sub.map cGQuery)))]), (2, [(.d (.i .i64 p0.kind)), (.d (.i .i64 p0.op)), (.d (.b p0.not_)), (.d (.i .i64 p0.value.kind)), (.d (.i .i64 p0.value.num)), (.d (.s (bs p0.value.text))), (.d (.s (bs p0.qual))), (.d (.s (bs p0.name))), (.d (.sl 10 (p0.kids.map cGExpr))), (.d (.sl 6 (p0.sub.map cGQuery)))])]⟩) (by kernel_rfl) ?_
            refine nil_in ?_
            refine next_in ?_
            refine ret_in ?_
            refine thenK_ret ?_
            have h := Option.some.inj h; subst h
            exact ret1_step (v := (.d (.b false))) (by kernel_rfl) (by kernel_rfl) (by kernel_rfl)
          · clear h; intro h
            refine skip_in ?_
            refine next_in ?_
            refine seq_in ?_
            refine seq_in ?_
            refine ops_in ?_
            refine sts_ok 5 (s' := ⟨[(30, (.d (.b (!decide (p0.qual = p1.qual))))), (29, (.d (.s (bs p1.qual)))), (28, (.ptr 3 6)), (27, (.d (.s (bs p0.qual)))), (26, (.ptr 2 6)), (25, (.d (.b (!y1)))), (24, (.d (.b y1))), (23, (vGValue p1.value)), (22, (.ptr 3 3)), (21, (vGValue p0.value)), (20, (.ptr 2 3)), (19, (.d (.b (!(p0.not_ == p1.not_))))), (18, (.d (.b p1.not_))), (17, (.ptr 3 2)), (16, (.d (.b p0.not_))), (15, (.ptr 2 2)), (14, (.d (.b (!decide (p0.op = p1.op))))), (13, (.d (.i .i64 p1.op))), (12, (.ptr 3 1)), (11, (.d (.i .i64 p0.op))), (10, (.ptr 2 1)), (9, (.d (.b (!decide (p0.kind = p1.kind))))), (8, (.d (.i .i64 p1.kind))), (7, (.ptr 3 0)), (6, (.d (.i .i64 p0.kind))), (5, (.ptr 2 0)), (4, (.d (.b false))), (3, (.ptr 3 0)), (2, (.ptr 2 0)), (0, (vGExpr p0)), (1, (vGExpr p1))], [(3, [(.d (.i .i64 p1.kind)), (.d (.i .i64 p1.op)), (.d (.b p1.not_)), (.d (.i .i64 p1.value.kind)), (.d (.i .i64 p1.value.num)), (.d (.s (bs p1.value.text))), (.d (.s (bs p1.qual))), (.d (.s (bs p1.name))), (.d (.sl 10 (p1.kids.map cGExpr))), (.d (.sl 6 (p1.sub.map cGQuery)))]), (2, [(.d (.i .i64 p0.kind)), (.d (.i .i64 p0.op)), (.d (.b p0.not_)), (.d (.i .i64 p0.value.kind)), (.d (.i .i64 p0.value.num)), (.d (.s (bs p0.value.text))), (.d (.s (bs p0.qual))), (.d (.s (bs p0.name))), (.d (.sl 10 (p0.kids.map cGExpr))), (.d (.sl 6 (p0.sub.map cGQuery)))])]⟩) (by kernel_rfl) ?_
            refine nil_in ?_
            refine next_in ?_
            refine cond_step h (by kernel_rfl) ?_ ?_
            · clear h; intro h
              refine seq_in ?_
              refine ops_in ?_
              refine sts_ok 1 (s' := ⟨[(4, (.d (.b false))), (30, (.d (.b (!decide (p0.qual = p1.qual))))), (29, (.d (.s (bs p1.qual)))), (28, (.ptr 3 6)), (27, (.d (.s (bs p0.qual)))), (26, (.ptr 2 6)), (25, (.d (.b (!y1)))), (24, (.d (.b y1))), (23, (vGValue p1.value)), (22, (.ptr 3 3)), (21, (vGValue p0.value)), (20, (.ptr 2 3)), (19, (.d (.b (!(p0.not_ == p1.not_))))), (18, (.d (.b p1.not_))), (17, (.ptr 3 2)), (16, (.d (.b p0.not_))), (15, (.ptr 2 2)), (14, (.d (.b (!decide (p0.op = p1.op))))), (13, (.d (.i .i64 p1.op))), (12, (.ptr 3 1)), (11, (.d (.i .i64 p0.op))), (10, (.ptr 2 1)), (9, (.d (.b (!decide (p0.kind = p1.kind))))), (8, (.d (.i .i64 p1.kind))), (7, (.ptr 3 0)), (6, (.d (.i .i64 p0.kind))), (5, (.ptr 2 0)), (4, (.d (.b false))), (3, (.ptr 3 0)), (2, (.ptr 2 0)), (0, (vGExpr p0)), (1, (vGExpr p1))], [(3, [(.d (.i .i64 p1.kind)), (.d (.i .i64 p1.op)), (.d (.b p1.not_)), (.d (.i .i64 p1.value.kind)), (.d (.i .i64 p1.value.num)), (.d (.s (bs p1.value.text))), (.d (.s (bs p1.qual))), (.d (.s (bs p1.name))), (.d (.sl 10 (p1.kids.map cGExpr))), (.d (.sl 6 (p1.sub.map cGQuery)))]), (2, [(.d (.i .i64 p0.kind)), (.d (.i .i64 p0.op)), (.d (.b p0.not_)), (.d (.i .i64 p0.value.kind)), (.d (.i .i64 p0.value.num)), (.d (.s (bs p0.value.text))), (.d (.s (bs p0.qual))), (.d (.s (bs p0.name))), (.d (.sl 10 (p0.kids.map cGExpr))), (.d (.sl 6 (p0.sub.map cGQuery)))])]⟩) (by kernel_rfl) ?_
              refine nil_in ?_
              refine next_in ?_
              refine ret_in ?_
              refine thenK_ret ?_
              have h := Option.some.inj h; subst h
              exact ret1_step (v := (.d (.b false))) (by kernel_rfl) (by kernel_rfl) (by kernel_rfl)
            · clear h; intro h
              refine skip_in ?_
              refine next_in ?_
              refine seq_in ?_
              refine seq_in ?_
              refine ops_in ?_
              refine sts_ok 5 (s' := ⟨[(35, (.d (.b (!decide (p0.name = p1.name))))), (34, (.d (.s (bs p1.name)))), (33, (.ptr 3 7)), (32, (.d (.s (bs p0.name)))), (31, (.ptr 2 7)), (30, (.d (.b (!decide (p0.qual = p1.qual))))), (29, (.d (.s (bs p1.qual)))), (28, (.ptr 3 6)), (27, (.d (.s (bs p0.qual)))), (26, (.ptr 2 6)), (25, (.d (.b (!y1)))), (24, (.d (.b y1))), (23, (vGValue p1.value)), (22, (.ptr 3 3)), (21, (vGValue p0.value)), (20, (.ptr 2 3)), (19, (.d (.b (!(p0.not_ == p1.not_))))), (18, (.d (.b p1.not_))), (17, (.ptr 3 2)), (16, (.d (.b p0.not_))), (15, (.ptr 2 2)), (14, (.d (.b (!decide (p0.op = p1.op))))), (13, (.d (.i .i64 p1.op))), (12, (.ptr 3 1)), (11, (.d (.i .i64 p0.op))), (10, (.ptr 2 1)), (9, (.d (.b (!decide (p0.kind = p1.kind))))), (8, (.d (.i .i64 p1.kind))), (7, (.ptr 3 0)), (6, (.d (.i .i64 p0.kind))), (5, (.ptr 2 0)), (4, (.d (.b false))), (3, (.ptr 3 0)), (2, (.ptr 2 0)), (0, (vGExpr p0)), (1, (vGExpr p1))], [(3, [(.d (.i .i64 p1.kind)), (.d (.i .i64 p1.op)), (.d (.b p1.not_)), (.d (.i .i64 p1.value.kind)), (.d (.i .i64 p1.value.num)), (.d (.s (bs p1.value.text))), (.d (.s (bs p1.qual))), (.d (.s (bs p1.name))), (.d (.sl 10 (p1.kids.map cGExpr))), (.d (.sl 6 (p1.sub.map cGQuery)))]), (2, [(.d (.i .i64 p0.kind)), (.d (.i .i64 p0.op)), (.d (.b p0.not_)), (.d (.i .i64 p0.value.kind)), (.d (.i .i64 p0.value.num)), (.d (.s (bs p0.value.text))), (.d (.s (bs p0.qual))), (.d (.s (bs p0.name))), (.d (.sl 10 (p0.kids.map cGExpr))), (.d (.sl 6 (p0.sub.map cGQuery)))])]⟩) (by kernel_rfl) ?_
              refine nil_in ?_
              refine next_in ?_
              refine cond_step h (by kernel_rfl) ?_ ?_
              · clear h; intro h
                refine seq_in ?_
                refine ops_in ?_
                refine sts_ok 1 (s' := ⟨[(4, (.d (.b false))), (35, (.d (.b (!decide (p0.name = p1.name))))), (34, (.d (.s (bs p1.name)))), (33, (.ptr 3 7)), (32, (.d (.s (bs p0.name)))), (31, (.ptr 2 7)), (30, (.d (.b (!decide (p0.qual = p1.qual))))), (29, (.d (.s (bs p1.qual)))), (28, (.ptr 3 6)), (27, (.d (.s (bs p0.qual)))), (26, (.ptr 2 6)), (25, (.d (.b (!y1)))), (24, (.d (.b y1))), (23, (vGValue p1.value)), (22, (.ptr 3 3)), (21, (vGValue p0.value)), (20, (.ptr 2 3)), (19, (.d (.b (!(p0.not_ == p1.not_))))), (18, (.d (.b p1.not_))), (17, (.ptr 3 2)), (16, (.d (.b p0.not_))), (15, (.ptr 2 2)), (14, (.d (.b (!decide (p0.op = p1.op))))), (13, (.d (.i .i64 p1.op))), (12, (.ptr 3 1)), (11, (.d (.i .i64 p0.op))), (10, (.ptr 2 1)), (9, (.d (.b (!decide (p0.kind = p1.kind))))), (8, (.d (.i .i64 p1.kind))), (7, (.ptr 3 0)), (6, (.d (.i .i64 p0.kind))), (5, (.ptr 2 0)), (4, (.d (.b false))), (3, (.ptr 3 0)), (2, (.ptr 2 0)), (0, (vGExpr p0)), (1, (vGExpr p1))], [(3, [(.d (.i .i64 p1.kind)), (.d (.i .i64 p1.op)), (.d (.b p1.not_)), (.d (.i .i64 p1.value.kind)), (.d (.i .i64 p1.value.num)), (.d (.s (bs p1.value.text))), (.d (.s (bs p1.qual))), (.d (.s (bs p1.name))), (.d (.sl 10 (p1.kids.map cGExpr))), (.d (.sl 6 (p1.sub.map cGQuery)))]), (2, [(.d (.i .i64 p0.kind)), (.d (.i .i64 p0.op)), (.d (.b p0.not_)), (.d (.i .i64 p0.value.kind)), (.d (.i .i64 p0.value.num)), (.d (.s (bs p0.value.text))), (.d (.s (bs p0.qual))), (.d (.s (bs p0.name))), (.d (.sl 10 (p0.kids.map cGExpr))), (.d (.sl 6 (p0.sub.map cGQuery)))])]⟩) (by kernel_rfl) ?_
                refine nil_in ?_
                refine next_in ?_
                refine ret_in ?_
                refine thenK_ret ?_
                have h := Option.some.inj h; subst h
                exact ret1_step (v := (.d (.b false))) (by kernel_rfl) (by kernel_rfl) (by kernel_rfl)
              · clear h; intro h
                refine skip_in ?_
                refine next_in ?_
                refine seq_in ?_
                refine seq_in ?_
                refine ops_in ?_
                refine sts_ok 4 (s' := ⟨[(39, (.d (.sl 10 (p1.kids.map cGExpr)))), (38, (.ptr 3 8)), (37, (.d (.sl 10 (p0.kids.map cGExpr)))), (36, (.ptr 2 8)), (35, (.d (.b (!decide (p0.name = p1.name))))), (34, (.d (.s (bs p1.name)))), (33, (.ptr 3 7)), (32, (.d (.s (bs p0.name)))), (31, (.ptr 2 7)), (30, (.d (.b (!decide (p0.qual = p1.qual))))), (29, (.d (.s (bs p1.qual)))), (28, (.ptr 3 6)), (27, (.d (.s (bs p0.qual)))), (26, (.ptr 2 6)), (25, (.d (.b (!y1)))), (24, (.d (.b y1))), (23, (vGValue p1.value)), (22, (.ptr 3 3)), (21, (vGValue p0.value)), (20, (.ptr 2 3)), (19, (.d (.b (!(p0.not_ == p1.not_))))), (18, (.d (.b p1.not_))), (17, (.ptr 3 2)), (16, (.d (.b p0.not_))), (15, (.ptr 2 2)), (14, (.d (.b (!decide (p0.op = p1.op))))), (13, (.d (.i .i64 p1.op))), (12, (.ptr 3 1)), (11, (.d (.i .i64 p0.op))), (10, (.ptr 2 1)), (9, (.d (.b (!decide (p0.kind = p1.kind))))), (8, (.d (.i .i64 p1.kind))), (7, (.ptr 3 0)), (6, (.d (.i .i64 p0.kind))), (5, (.ptr 2 0)), (4, (.d (.b false))), (3, (.ptr 3 0)), (2, (.ptr 2 0)), (0, (vGExpr p0)), (1, (vGExpr p1))], [(3, [(.d (.i .i64 p1.kind)), (.d (.i .i64 p1.op)), (.d (.b p1.not_)), (.d (.i .i64 p1.value.kind)), (.d (.i .i64 p1.value.num)), (.d (.s (bs p1.value.text))), (.d (.s (bs p1.qual))), (.d (.s (bs p1.name))), (.d (.sl 10 (p1.kids.map cGExpr))), (.d (.sl 6 (p1.sub.map cGQuery)))]), (2, [(.d (.i .i64 p0.kind)), (.d (.i .i64 p0.op)), (.d (.b p0.not_)), (.d (.i .i64 p0.value.kind)), (.d (.i .i64 p0.value.num)), (.d (.s (bs p0.value.text))), (.d (.s (bs p0.qual))), (.d (.s (bs p0.name))), (.d (.sl 10 (p0.kids.map cGExpr))), (.d (.sl 6 (p0.sub.map cGQuery)))])]⟩) (by kernel_rfl) ?_
                refine call_step (m := F_wEqExprS p0.kids p1.kids) (args := [(.d (.sl 10 (p0.kids.map cGExpr))), (.d (.sl 10 (p1.kids.map cGExpr)))]) (v' := (fun y => (.d (.b y)))) h (OK_wEqExprS p0.kids p1.kids) (by kernel_rfl) (by kernel_rfl) (fun _ => rfl) ?_
                clear h; intro y2 h
                refine sts_ok 1 (s' := ⟨[(41, (.d (.b (!y2)))), (40, (.d (.b y2))), (39, (.d (.sl 10 (p1.kids.map cGExpr)))), (38, (.ptr 3 8)), (37, (.d (.sl 10 (p0.kids.map cGExpr)))), (36, (.ptr 2 8)), (35, (.d (.b (!decide (p0.name = p1.name))))), (34, (.d (.s (bs p1.name)))), (33, (.ptr 3 7)), (32, (.d (.s (bs p0.name)))), (31, (.ptr 2 7)), (30, (.d (.b (!decide (p0.qual = p1.qual))))), (29, (.d (.s (bs p1.qual)))), (28, (.ptr 3 6)), (27, (.d (.s (bs p0.qual)))), (26, (.ptr 2 6)), (25, (.d (.b (!y1)))), (24, (.d (.b y1))), (23, (vGValue p1.value)), (22, (.ptr 3 3)), (21, (vGValue p0.value)), (20, (.ptr 2 3)), (19, (.d (.b (!(p0.not_ == p1.not_))))), (18, (.d (.b p1.not_))), (17, (.ptr 3 2)), (16, (.d (.b p0.not_))), (15, (.ptr 2 2)), (14, (.d (.b (!decide (p0.op = p1.op))))), (13, (.d (.i .i64 p1.op))), (12, (.ptr 3 1)), (11, (.d (.i .i64 p0.op))), (10, (.ptr 2 1)), (9, (.d (.b (!decide (p0.kind = p1.kind))))), (8, (.d (.i .i64 p1.kind))), (7, (.ptr 3 0)), (6, (.d (.i .i64 p0.kind))), (5, (.ptr 2 0)), (4, (.d (.b false))), (3, (.ptr 3 0)), (2, (.ptr 2 0)), (0, (vGExpr p0)), (1, (vGExpr p1))], [(3, [(.d (.i .i64 p1.kind)), (.d (.i .i64 p1.op)), (.d (.b p1.not_)), (.d (.i .i64 p1.value.kind)), (.d (.i .i64 p1.value.num)), (.d (.s (bs p1.value.text))), (.d (.s (bs p1.qual))), (.d (.s (bs p1.name))), (.d (.sl 10 (p1.kids.map cGExpr))), (.d (.sl 6 (p1.sub.map cGQuery)))]), (2, [(.d (.i .i64 p0.kind)), (.d (.i .i64 p0.op)), (.d (.b p0.not_)), (.d (.i .i64 p0.value.kind)), (.d (.i .i64 p0.value.num)), (.d (.s (bs p0.value.text))), (.d (.s (bs p0.qual))), (.d (.s (bs p0.name))), (.d (.sl 10 (p0.kids.map cGExpr))), (.d (.sl 6 (p0.sub.map cGQuery)))])]⟩) (by kernel_rfl) ?_
                refine nil_in ?_
                refine next_in ?_
                refine cond_step h (by kernel_rfl) ?_ ?_
                · clear h; intro h
                  refine seq_in ?_
                  refine ops_in ?_
                  refine sts_ok 1 (s' := ⟨[(4, (.d (.b false))), (41, (.d (.b (!y2)))), (40, (.d (.b y2))), (39, (.d (.sl 10 (p1.kids.map cGExpr)))), (38, (.ptr 3 8)), (37, (.d (.sl 10 (p0.kids.map cGExpr)))), (36, (.ptr 2 8)), (35, (.d (.b (!decide (p0.name = p1.name))))), (34, (.d (.s (bs p1.name)))), (33, (.ptr 3 7)), (32, (.d (.s (bs p0.name)))), (31, (.ptr 2 7)), (30, (.d (.b (!decide (p0.qual = p1.qual))))), (29, (.d (.s (bs p1.qual)))), (28, (.ptr 3 6)), (27, (.d (.s (bs p0.qual)))), (26, (.ptr 2 6)), (25, (.d (.b (!y1)))), (24, (.d (.b y1))), (23, (vGValue p1.value)), (22, (.ptr 3 3)), (21, (vGValue p0.value)), (20, (.ptr 2 3)), (19, (.d (.b (!(p0.not_ == p1.not_))))), (18, (.d (.b p1.not_))), (17, (.ptr 3 2)), (16, (.d (.b p0.not_))), (15, (.ptr 2 2)), (14, (.d (.b (!decide (p0.op = p1.op))))), (13, (.d (.i .i64 p1.op))), (12, (.ptr 3 1)), (11, (.d (.i .i64 p0.op))), (10, (.ptr 2 1)), (9, (.d (.b (!decide (p0.kind = p1.kind))))), (8, (.d (.i .i64 p1.kind))), (7, (.ptr 3 0)), (6, (.d (.i .i64 p0.kind))), (5, (.ptr 2 0)), (4, (.d (.b false))), (3, (.ptr 3 0)), (2, (.ptr 2 0)), (0, (vGExpr p0)), (1, (vGExpr p1))], [(3, [(.d (.i .i64 p1.kind)), (.d (.i .i64 p1.op)), (.d (.b p1.not_)), (.d (.i .i64 p1.value.kind)), (.d (.i .i64 p1.value.num)), (.d (.s (bs p1.value.text))), (.d (.s (bs p1.qual))), (.d (.s (bs p1.name))), (.d (.sl 10 (p1.kids.map cGExpr))), (.d (.sl 6 (p1.sub.map cGQuery)))]), (2, [(.d (.i .i64 p0.kind)), (.d (.i .i64 p0.op)), (.d (.b p0.not_)), (.d (.i .i64 p0.value.kind)), (.d (.i .i64 p0.value.num)), (.d (.s (bs p0.value.text))), (.d (.s (bs p0.qual))), (.d (.s (bs p0.name))), (.d (.sl 10 (p0.kids.map cGExpr))), (.d (.sl 6 (p0.sub.map cGQuery)))])]⟩) (by kernel_rfl) ?_
                  refine nil_in ?_
                  refine next_in ?_
                  refine ret_in ?_
                  refine thenK_ret ?_
                  have h := Option.some.inj h; subst h
                  exact ret1_step (v := (.d (.b false))) (by kernel_rfl) (by kernel_rfl) (by kernel_rfl)
                · clear h; intro h
                  refine skip_in ?_
                  refine next_in ?_
                  refine seq_in ?_
                  refine seq_in ?_
                  refine ops_in ?_
                  refine sts_ok 4 (s' := ⟨[(45, (.d (.sl 6 (p1.sub.map cGQuery)))), (44, (.ptr 3 9)), (43, (.d (.sl 6 (p0.sub.map cGQuery)))), (42, (.ptr 2 9)), (41, (.d (.b (!y2)))), (40, (.d (.b y2))), (39, (.d (.sl 10 (p1.kids.map cGExpr)))), (38, (.ptr 3 8)), (37, (.d (.sl 10 (p0.kids.map cGExpr)))), (36, (.ptr 2 8)), (35, (.d (.b (!decide (p0.name = p1.name))))), (34, (.d (.s (bs p1.name)))), (33, (.ptr 3 7)), (32, (.d (.s (bs p0.name)))), (31, (.ptr 2 7)), (30, (.d (.b (!decide (p0.qual = p1.qual))))), (29, (.d (.s (bs p1.qual)))), (28, (.ptr 3 6)), (27, (.d (.s (bs p0.qual)))), (26, (.ptr 2 6)), (25, (.d (.b (!y1)))), (24, (.d (.b y1))), (23, (vGValue p1.value)), (22, (.ptr 3 3)), (21, (vGValue p0.value)), (20, (.ptr 2 3)), (19, (.d (.b (!(p0.not_ == p1.not_))))), (18, (.d (.b p1.not_))), (17, (.ptr 3 2)), (16, (.d (.b p0.not_))), (15, (.ptr 2 2)), (14, (.d (.b (!decide (p0.op = p1.op))))), (13, (.d (.i .i64 p1.op))), (12, (.ptr 3 1)), (11, (.d (.i .i64 p0.op))), (10, (.ptr 2 1)), (9, (.d (.b (!decide (p0.kind = p1.kind))))), (8, (.d (.i .i64 p1.kind))), (7, (.ptr 3 0)), (6, (.d (.i .i64 p0.kind))), (5, (.ptr 2 0)), (4, (.d (.b false))), (3, (.ptr 3 0)), (2, (.ptr 2 0)), (0, (vGExpr p0)), (1, (vGExpr p1))], [(3, [(.d (.i .i64 p1.kind)), (.d (.i .i64 p1.op)), (.d (.b p1.not_)), (.d (.i .i64 p1.value.kind)), (.d (.i .i64 p1.value.num)), (.d (.s (bs p1.value.text))), (.d (.s (bs p1.qual))), (.d (.s (bs p1.name))), (.d (.sl 10 (p1.kids.map cGExpr))), (.d (.sl 6 (p1.sub.map cGQuery)))]), (2, [(.d (.i .i64 p0.kind)), (.d (.i .i64 p0.op)), (.d (.b p0.not_)), (.d (.i .i64 p0.value.kind)), (.d (.i .i64 p0.value.num)), (.d (.s (bs p0.value.text))), (.d (.s (bs p0.qual))), (.d (.s (bs p0.name))), (.d (.sl 10 (p0.kids.map cGExpr))), (.d (.sl 6 (p0.sub.map cGQuery)))])]⟩) (by kernel_rfl) ?_
                  refine call_step (m := F_wEqQueryS p0.sub p1.sub) (args := [(.d (.sl 6 (p0.sub.map cGQuery))), (.d (.sl 6 (p1.sub.map cGQuery)))]) (v' := (fun y => (.d (.b y)))) h (OK_wEqQueryS p0.sub p1.sub) (by kernel_rfl) (by kernel_rfl) (fun _ => rfl) ?_
                  clear h; intro y3 h
                  refine sts_ok 1 (s' := ⟨[(47, (.d (.b (!y3)))), (46, (.d (.b y3))), (45, (.d (.sl 6 (p1.sub.map cGQuery)))), (44, (.ptr 3 9)), (43, (.d (.sl 6 (p0.sub.map cGQuery)))), (42, (.ptr 2 9)), (41, (.d (.b (!y2)))), (40, (.d (.b y2))), (39, (.d (.sl 10 (p1.kids.map cGExpr)))), (38, (.ptr 3 8)), (37, (.d (.sl 10 (p0.kids.map cGExpr)))), (36, (.ptr 2 8)), (35, (.d (.b (!decide (p0.name = p1.name))))), (34, (.d (.s (bs p1.name)))), (33, (.ptr 3 7)), (32, (.d (.s (bs p0.name)))), (31, (.ptr 2 7)), (30, (.d (.b (!decide (p0.qual = p1.qual))))), (29, (.d (.s (bs p1.qual)))), (28, (.ptr 3 6)), (27, (.d (.s (bs p0.qual)))), (26, (.ptr 2 6)), (25, (.d (.b (!y1)))), (24, (.d (.b y1))), (23, (vGValue p1.value)), (22, (.ptr 3 3)), (21, (vGValue p0.value)), (20, (.ptr 2 3)), (19, (.d (.b (!(p0.not_ == p1.not_))))), (18, (.d (.b p1.not_))), (17, (.ptr 3 2)), (16, (.d (.b p0.not_))), (15, (.ptr 2 2)), (14, (.d (.b (!decide (p0.op = p1.op))))), (13, (.d (.i .i64 p1.op))), (12, (.ptr 3 1)), (11, (.d (.i .i64 p0.op))), (10, (.ptr 2 1)), (9, (.d (.b (!decide (p0.kind = p1.kind))))), (8, (.d (.i .i64 p1.kind))), (7, (.ptr 3 0)), (6, (.d (.i .i64 p0.kind))), (5, (.ptr 2 0)), (4, (.d (.b false))), (3, (.ptr 3 0)), (2, (.ptr 2 0)), (0, (vGExpr p0)), (1, (vGExpr p1))], [(3, [(.d (.i .i64 p1.kind)), (.d (.i .i64 p1.op)), (.d (.b p1.not_)), (.d (.i .i64 p1.value.kind)), (.d (.i .i64 p1.value.num)), (.d (.s (bs p1.value.text))), (.d (.s (bs p1.qual))), (.d (.s (bs p1.name))), (.d (.sl 10 (p1.kids.map cGExpr))), (.d (.sl 6 (p1.sub.map cGQuery)))]), (2, [(.d (.i .i64 p0.kind)), (.d (.i .i64 p0.op)), (.d (.b p0.not_)), (.d (.i .i64 p0.value.kind)), (.d (.i .i64 p0.value.num)), (.d (.s (bs p0.value.text))), (.d (.s (bs p0.qual))), (.d (.s (bs p0.name))), (.d (.sl 10 (p0.kids.map cGExpr))), (.d (.sl 6 (p0.sub.map cGQuery)))])]⟩) (by kernel_rfl) ?_
                  refine nil_in ?_
                  refine next_in ?_
                  refine cond_step h (by kernel_rfl) ?_ ?_
                  · clear h; intro h
                    refine seq_in ?_
                    refine ops_in ?_
                    refine sts_ok 1 (s' := ⟨[(4, (.d (.b false))), (47, (.d (.b (!y3)))), (46, (.d (.b y3))), (45, (.d (.sl 6 (p1.sub.map cGQuery)))), (44, (.ptr 3 9)), (43, (.d (.sl 6 (p0.sub.map cGQuery)))), (42, (.ptr 2 9)), (41, (.d (.b (!y2)))), (40, (.d (.b y2))), (39, (.d (.sl 10 (p1.kids.map cGExpr)))), (38, (.ptr 3 8)), (37, (.d (.sl 10 (p0.kids.map cGExpr)))), (36, (.ptr 2 8)), (35, (.d (.b (!decide (p0.name = p1.name))))), (34, (.d (.s (bs p1.name)))), (33, (.ptr 3 7)), (32, (.d (.s (bs p0.name)))), (31, (.ptr 2 7)), (30, (.d (.b (!decide (p0.qual = p1.qual))))), (29, (.d (.s (bs p1.qual)))), (28, (.ptr 3 6)), (27, (.d (.s (bs p0.qual)))), (26, (.ptr 2 6)), (25, (.d (.b (!y1)))), (24, (.d (.b y1))), (23, (vGValue p1.value)), (22, (.ptr 3 3)), (21, (vGValue p0.value)), (20, (.ptr 2 3)), (19, (.d (.b (!(p0.not_ == p1.not_))))), (18, (.d (.b p1.not_))), (17, (.ptr 3 2)), (16, (.d (.b p0.not_))), (15, (.ptr 2 2)), (14, (.d (.b (!decide (p0.op = p1.op))))), (13, (.d (.i .i64 p1.op))), (12, (.ptr 3 1)), (11, (.d (.i .i64 p0.op))), (10, (.ptr 2 1)), (9, (.d (.b (!decide (p0.kind = p1.kind))))), (8, (.d (.i .i64 p1.kind))), (7, (.ptr 3 0)), (6, (.d (.i .i64 p0.kind))), (5, (.ptr 2 0)), (4, (.d (.b false))), (3, (.ptr 3 0)), (2, (.ptr 2 0)), (0, (vGExpr p0)), (1, (vGExpr p1))], [(3, [(.d (.i .i64 p1.kind)), (.d (.i .i64 p1.op)), (.d (.b p1.not_)), (.d (.i .i64 p1.value.kind)), (.d (.i .i64 p1.value.num)), (.d (.s (bs p1.value.text))), (.d (.s (bs p1.qual))), (.d (.s (bs p1.name))), (.d (.sl 10 (p1.kids.map cGExpr))), (.d (.sl 6 (p1.sub.map cGQuery)))]), (2, [(.d (.i .i64 p0.kind)), (.d (.i .i64 p0.op)), (.d (.b p0.not_)), (.d (.i .i64 p0.value.kind)), (.d (.i .i64 p0.value.num)), (.d (.s (bs p0.value.text))), (.d (.s (bs p0.qual))), (.d (.s (bs p0.name))), (.d (.sl 10 (p0.kids.map cGExpr))), (.d (.sl 6 (p0.sub.map cGQuery)))])]⟩) (by kernel_rfl) ?_
                    refine nil_in ?_
                    refine next_in ?_
                    refine ret_in ?_
                    refine thenK_ret ?_
                    have h := Option.some.inj h; subst h
                    exact ret1_step (v := (.d (.b false))) (by kernel_rfl) (by kernel_rfl) (by kernel_rfl)
                  · clear h; intro h
                    refine skip_in ?_
                    refine next_in ?_
                    refine seq_in ?_
                    refine ops_in ?_
                    refine sts_ok 1 (s' := ⟨[(4, (.d (.b true))), (47, (.d (.b (!y3)))), (46, (.d (.b y3))), (45, (.d (.sl 6 (p1.sub.map cGQuery)))), (44, (.ptr 3 9)), (43, (.d (.sl 6 (p0.sub.map cGQuery)))), (42, (.ptr 2 9)), (41, (.d (.b (!y2)))), (40, (.d (.b y2))), (39, (.d (.sl 10 (p1.kids.map cGExpr)))), (38, (.ptr 3 8)), (37, (.d (.sl 10 (p0.kids.map cGExpr)))), (36, (.ptr 2 8)), (35, (.d (.b (!decide (p0.name = p1.name))))), (34, (.d (.s (bs p1.name)))), (33, (.ptr 3 7)), (32, (.d (.s (bs p0.name)))), (31, (.ptr 2 7)), (30, (.d (.b (!decide (p0.qual = p1.qual))))), (29, (.d (.s (bs p1.qual)))), (28, (.ptr 3 6)), (27, (.d (.s (bs p0.qual)))), (26, (.ptr 2 6)), (25, (.d (.b (!y1)))), (24, (.d (.b y1))), (23, (vGValue p1.value)), (22, (.ptr 3 3)), (21, (vGValue p0.value)), (20, (.ptr 2 3)), (19, (.d (.b (!(p0.not_ == p1.not_))))), (18, (.d (.b p1.not_))), (17, (.ptr 3 2)), (16, (.d (.b p0.not_))), (15, (.ptr 2 2)), (14, (.d (.b (!decide (p0.op = p1.op))))), (13, (.d (.i .i64 p1.op))), (12, (.ptr 3 1)), (11, (.d (.i .i64 p0.op))), (10, (.ptr 2 1)), (9, (.d (.b (!decide (p0.kind = p1.kind))))), (8, (.d (.i .i64 p1.kind))), (7, (.ptr 3 0)), (6, (.d (.i .i64 p0.kind))), (5, (.ptr 2 0)), (4, (.d (.b false))), (3, (.ptr 3 0)), (2, (.ptr 2 0)), (0, (vGExpr p0)), (1, (vGExpr p1))], [(3, [(.d (.i .i64 p1.kind)), (.d (.i .i64 p1.op)), (.d (.b p1.not_)), (.d (.i .i64 p1.value.kind)), (.d (.i .i64 p1.value.num)), (.d (.s (bs p1.value.text))), (.d (.s (bs p1.qual))), (.d (.s (bs p1.name))), (.d (.sl 10 (p1.kids.map cGExpr))), (.d (.sl 6 (p1.sub.map cGQuery)))]), (2, [(.d (.i .i64 p0.kind)), (.d (.i .i64 p0.op)), (.d (.b p0.not_)), (.d (.i .i64 p0.value.kind)), (.d (.i .i64 p0.value.num)), (.d (.s (bs p0.value.text))), (.d (.s (bs p0.qual))), (.d (.s (bs p0.name))), (.d (.sl 10 (p0.kids.map cGExpr))), (.d (.sl 6 (p0.sub.map cGQuery)))])]⟩) (by kernel_rfl) ?_
                    refine nil_in ?_
                    refine next_in ?_
                    refine ret_in ?_
                    have h := Option.some.inj h; subst h
                    exact ret1_step (v := (.d (.b true))) (by kernel_rfl) (by kernel_rfl) (by kernel_rfl)
  · intro F_wEqQueryS_L0 OK_wEqQueryS_L0 p0 p1 r h
    refine acalls_of_fn trwEqQueryS (Nat.le_of_ble_eq_true rfl) (by simp) ?_
    show avc Try.prog acwEqQueryS (qwEqQueryS _) ⟨[(0, (.d (.sl 6 (p0.map cGQuery)))), (1, (.d (.sl 6 (p1.map cGQuery))))], []⟩
    delta acwEqQueryS
    refine seq_in ?_
    refine ops_in ?_
    refine sts_ok 1 (s' := ⟨[(4, (.d (.b false))), (0, (.d (.sl 6 (p0.map cGQuery)))), (1, (.d (.sl 6 (p1.map cGQuery))))], []⟩) (by kernel_rfl) ?_
    refine nil_in ?_
    refine next_in ?_
    refine seq_in ?_
    refine seq_in ?_
    refine ops_in ?_
    refine sts_ok 1 (s' := ⟨[(6, (.d (.sl 6 (p0.map cGQuery)))), (4, (.d (.b false))), (0, (.d (.sl 6 (p0.map cGQuery)))), (1, (.d (.sl 6 (p1.map cGQuery))))], []⟩) (by kernel_rfl) ?_
    refine p_step (v' := (.d (.i .i64 (p0.length : Int)))) rfl rfl (vop_len (sz := 6) (l := p0) (f := cGQuery) (by kernel_rfl) (by kernel_rfl)) ?_
    refine sts_ok 1 (s' := ⟨[(8, (.d (.sl 6 (p1.map cGQuery)))), (7, (.d (.i .i64 (p0.length : Int)))), (6, (.d (.sl 6 (p0.map cGQuery)))), (4, (.d (.b false))), (0, (.d (.sl 6 (p0.map cGQuery)))), (1, (.d (.sl 6 (p1.map cGQuery))))], []⟩) (by kernel_rfl) ?_
    refine p_step (v' := (.d (.i .i64 (p1.length : Int)))) rfl rfl (vop_len (sz := 6) (l := p1) (f := cGQuery) (by kernel_rfl) (by kernel_rfl)) ?_
    refine sts_ok 1 (s' := ⟨[(10, (.d (.b (!decide ((p0.length : Int) = (p1.length : Int)))))), (9, (.d (.i .i64 (p1.length : Int)))), (8, (.d (.sl 6 (p1.map cGQuery)))), (7, (.d (.i .i64 (p0.length : Int)))), (6, (.d (.sl 6 (p0.map cGQuery)))), (4, (.d (.b false))), (0, (.d (.sl 6 (p0.map cGQuery)))), (1, (.d (.sl 6 (p1.map cGQuery))))], []⟩) (by kernel_rfl) ?_
    refine nil_in ?_
    refine next_in ?_
    refine cond_step h (by kernel_rfl) ?_ ?_
    · clear h; intro h
      refine seq_in ?_
      refine ops_in ?_
      refine sts_ok 1 (s' := ⟨[(4, (.d (.b false))), (10, (.d (.b (!decide ((p0.length : Int) = (p1.length : Int)))))), (9, (.d (.i .i64 (p1.length : Int)))), (8, (.d (.sl 6 (p1.map cGQuery)))), (7, (.d (.i .i64 (p0.length : Int)))), (6, (.d (.sl 6 (p0.map cGQuery)))), (4, (.d (.b false))), (0, (.d (.sl 6 (p0.map cGQuery)))), (1, (.d (.sl 6 (p1.map cGQuery))))], []⟩) (by kernel_rfl) ?_
      refine nil_in ?_
      refine next_in ?_
      refine ret_in ?_
      refine thenK_ret ?_
      have h := Option.some.inj h; subst h
      exact ret1_step (v := (.d (.b false))) (by kernel_rfl) (by kernel_rfl) (by kernel_rfl)
    · clear h; intro h
      refine skip_in ?_
      refine next_in ?_
      refine seq_in ?_
      refine seq_in ?_
      refine ops_in ?_
      refine sts_ok 1 (s' := ⟨[(5, (.d (.i .i64 0))), (10, (.d (.b (!decide ((p0.length : Int) = (p1.length : Int)))))), (9, (.d (.i .i64 (p1.length : Int)))), (8, (.d (.sl 6 (p1.map cGQuery)))), (7, (.d (.i .i64 (p0.length : Int)))), (6, (.d (.sl 6 (p0.map cGQuery)))), (4, (.d (.b false))), (0, (.d (.sl 6 (p0.map cGQuery)))), (1, (.d (.sl 6 (p1.map cGQuery))))], []⟩) (by kernel_rfl) ?_
      refine nil_in ?_
      refine next_in ?_
      refine block_in ?_
      exact loop_go (s' := stwEqQueryS_L0 p0 p1 0) (wk_ren [] (by kernel_rfl) (er_cons (vr_same (by kernel_rfl) (by kernel_rfl)) (er_cons (vr_same (by kernel_rfl) (by kernel_rfl)) (er_cons (vr_same (by kernel_rfl) (by kernel_rfl)) (er_nil)))) (br_nil)) (OK_wEqQueryS_L0 p0 p1 0 _ h)
  · intro F_wEqQueryS_L0 F_wEqQuery OK_wEqQueryS_L0 OK_wEqQuery p0 p1 x5 r h
    delta acwEqQueryS_L0
    refine loop_unroll ?_
    refine seq_in ?_
    refine seq_in ?_
    refine ops_in ?_
    refine sts_ok 2 (s' := ⟨(12, (.d (.sl 6 (p0.map cGQuery)))) :: (11, (.d (.i .i64 x5))) :: (stwEqQueryS_L0 p0 p1 x5).env, (stwEqQueryS_L0 p0 p1 x5).bx⟩) (by kernel_rfl) ?_
    refine p_step (v' := (.d (.i .i64 (p0.length : Int)))) rfl rfl (vop_len (sz := 6) (l := p0) (f := cGQuery) (by kernel_rfl) (by kernel_rfl)) ?_
    refine sts_ok 1 (s' := ⟨(14, (.d (.b (decide (x5 < (p0.length : Int)))))) :: (13, (.d (.i .i64 (p0.length : Int)))) :: (12, (.d (.sl 6 (p0.map cGQuery)))) :: (11, (.d (.i .i64 x5))) :: (stwEqQueryS_L0 p0 p1 x5).env, (stwEqQueryS_L0 p0 p1 x5).bx⟩) (by kernel_rfl) ?_
    refine nil_in ?_
    refine next_in ?_
    refine cond_step h (by kernel_rfl) ?_ ?_
    · clear h; intro h
      refine skip_in ?_
      refine next_in ?_
      refine seq_in ?_
      refine block_in ?_
      refine seq_in ?_
      refine dops_in ?_
      refine dsts_ok 2 (s' := ⟨(18, (.d (.i .i64 x5))) :: (17, (.d (.sl 6 (p0.map cGQuery)))) :: (14, (.d (.b (decide (x5 < (p0.length : Int)))))) :: (13, (.d (.i .i64 (p0.length : Int)))) :: (12, (.d (.sl 6 (p0.map cGQuery)))) :: (11, (.d (.i .i64 x5))) :: (stwEqQueryS_L0 p0 p1 x5).env, (stwEqQueryS_L0 p0 p1 x5).bx⟩) (by kernel_rfl) ?_
      refine dv_step (m := idx p0 x5) (v' := fun y => (.rp [(.b y.distinct), (.sl 13 (y.items.map cGItem)), (.sl 3 (y.from_.map cGSource)), (.sl 10 (y.where_.map cGExpr)), (.sl 11 (y.order.map cGSortKey)), (.i .i64 y.limit)])) h rfl rfl (fun y hy => vop_ia (l := p0) (f := cGQuery) (g := oGQuery) (k := .i64) hy cGQuery_eq (by kernel_rfl) (by kernel_rfl) (by kernel_rfl)) ?_
      clear h; intro y1 h
      refine dsts_ok 3 (s' := ⟨(22, (.d (.i .i64 x5))) :: (21, (.d (.sl 6 (p1.map cGQuery)))) :: (20, (vGQuery y1)) :: (19, (.rp [(.b y1.distinct), (.sl 13 (y1.items.map cGItem)), (.sl 3 (y1.from_.map cGSource)), (.sl 10 (y1.where_.map cGExpr)), (.sl 11 (y1.order.map cGSortKey)), (.i .i64 y1.limit)])) :: (18, (.d (.i .i64 x5))) :: (17, (.d (.sl 6 (p0.map cGQuery)))) :: (14, (.d (.b (decide (x5 < (p0.length : Int)))))) :: (13, (.d (.i .i64 (p0.length : Int)))) :: (12, (.d (.sl 6 (p0.map cGQuery)))) :: (11, (.d (.i .i64 x5))) :: (stwEqQueryS_L0 p0 p1 x5).env, (stwEqQueryS_L0 p0 p1 x5).bx⟩) (by kernel_rfl) ?_
      refine dv_step (m := idx p1 x5) (v' := fun y => (.rp [(.b y.distinct), (.sl 13 (y.items.map cGItem)), (.sl 3 (y.from_.map cGSource)), (.sl 10 (y.where_.map cGExpr)), (.sl 11 (y.order.map cGSortKey)), (.i .i64 y.limit)])) h rfl rfl (fun y hy => vop_ia (l := p1) (f := cGQuery) (g := oGQuery) (k := .i64) hy cGQuery_eq (by kernel_rfl) (by kernel_rfl) (by kernel_rfl)) ?_
      clear h; intro y2 h
      refine dsts_ok 1 (s' := ⟨(24, (vGQuery y2)) :: (23, (.rp [(.b y2.distinct), (.sl 13 (y2.items.map cGItem)), (.sl 3 (y2.from_.map cGSource)), (.sl 10 (y2.where_.map cGExpr)), (.sl 11 (y2.order.map cGSortKey)), (.i .i64 y2.limit)])) :: (22, (.d (.i .i64 x5))) :: (21, (.d (.sl 6 (p1.map cGQuery)))) :: (20, (vGQuery y1)) :: (19, (.rp [(.b y1.distinct), (.sl 13 (y1.items.map cGItem)), (.sl 3 (y1.from_.map cGSource)), (.sl 10 (y1.where_.map cGExpr)), (.sl 11 (y1.order.map cGSortKey)), (.i .i64 y1.limit)])) :: (18, (.d (.i .i64 x5))) :: (17, (.d (.sl 6 (p0.map cGQuery)))) :: (14, (.d (.b (decide (x5 < (p0.length : Int)))))) :: (13, (.d (.i .i64 (p0.length : Int)))) :: (12, (.d (.sl 6 (p0.map cGQuery)))) :: (11, (.d (.i .i64 x5))) :: (stwEqQueryS_L0 p0 p1 x5).env, (stwEqQueryS_L0 p0 p1 x5).bx⟩) (by kernel_rfl) ?_
      refine dcall_step (m := F_wEqQuery y1 y2) (args := [(vGQuery y1), (vGQuery y2)]) (v' := (fun y => (.d (.b y)))) h (OK_wEqQuery y1 y2) (by kernel_rfl) (by kernel_rfl) (fun _ => rfl) ?_
      clear h; intro y3 h
      refine dsts_ok 1 (s' := ⟨(26, (.d (.b (!y3)))) :: (25, (.d (.b y3))) :: (24, (vGQuery y2)) :: (23, (.rp [(.b y2.distinct), (.sl 13 (y2.items.map cGItem)), (.sl 3 (y2.from_.map cGSource)), (.sl 10 (y2.where_.map cGExpr)), (.sl 11 (y2.order.map cGSortKey)), (.i .i64 y2.limit)])) :: (22, (.d (.i .i64 x5))) :: (21, (.d (.sl 6 (p1.map cGQuery)))) :: (20, (vGQuery y1)) :: (19, (.rp [(.b y1.distinct), (.sl 13 (y1.items.map cGItem)), (.sl 3 (y1.from_.map cGSource)), (.sl 10 (y1.where_.map cGExpr)), (.sl 11 (y1.order.map cGSortKey)), (.i .i64 y1.limit)])) :: (18, (.d (.i .i64 x5))) :: (17, (.d (.sl 6 (p0.map cGQuery)))) :: (14, (.d (.b (decide (x5 < (p0.length : Int)))))) :: (13, (.d (.i .i64 (p0.length : Int)))) :: (12, (.d (.sl 6 (p0.map cGQuery)))) :: (11, (.d (.i .i64 x5))) :: (stwEqQueryS_L0 p0 p1 x5).env, (stwEqQueryS_L0 p0 p1 x5).bx⟩) (by kernel_rfl) ?_
      refine dnil_in (by kernel_rfl) (by kernel_rfl) ?_
      refine next_in ?_
      refine cond_step h (by kernel_rfl) ?_ ?_
      · clear h; intro h
        refine seq_in ?_
        refine ops_in ?_
        refine sts_ok 1 (s' := ⟨(4, (.d (.b false))) :: (26, (.d (.b (!y3)))) :: (25, (.d (.b y3))) :: (24, (vGQuery y2)) :: (23, (.rp [(.b y2.distinct), (.sl 13 (y2.items.map cGItem)), (.sl 3 (y2.from_.map cGSource)), (.sl 10 (y2.where_.map cGExpr)), (.sl 11 (y2.order.map cGSortKey)), (.i .i64 y2.limit)])) :: (22, (.d (.i .i64 x5))) :: (21, (.d (.sl 6 (p1.map cGQuery)))) :: (20, (vGQuery y1)) :: (19, (.rp [(.b y1.distinct), (.sl 13 (y1.items.map cGItem)), (.sl 3 (y1.from_.map cGSource)), (.sl 10 (y1.where_.map cGExpr)), (.sl 11 (y1.order.map cGSortKey)), (.i .i64 y1.limit)])) :: (18, (.d (.i .i64 x5))) :: (17, (.d (.sl 6 (p0.map cGQuery)))) :: (14, (.d (.b (decide (x5 < (p0.length : Int)))))) :: (13, (.d (.i .i64 (p0.length : Int)))) :: (12, (.d (.sl 6 (p0.map cGQuery)))) :: (11, (.d (.i .i64 x5))) :: (stwEqQueryS_L0 p0 p1 x5).env, (stwEqQueryS_L0 p0 p1 x5).bx⟩) (by kernel_rfl) ?_
        refine nil_in ?_
        refine next_in ?_
        refine ret_in ?_
        refine blockK_ret ?_
        refine thenK_ret ?_
        refine thenK_ret ?_
        refine blockK_ret ?_
        refine thenK_ret ?_
        have h := Option.some.inj h; subst h
        exact ret1_step (v := (.d (.b false))) (by kernel_rfl) (by kernel_rfl) (by kernel_rfl)
      · clear h; intro h
        refine skip_in ?_
        refine blockK_norm ?_
        refine next_in ?_
        refine ops_in ?_
        refine sts_ok 3 (s' := ⟨(5, (.d (.i .i64 (IntKind.wrap .i64 (x5 + 1))))) :: (16, (.d (.i .i64 (IntKind.wrap .i64 (x5 + 1))))) :: (15, (.d (.i .i64 x5))) :: (26, (.d (.b (!y3)))) :: (25, (.d (.b y3))) :: (24, (vGQuery y2)) :: (23, (.rp [(.b y2.distinct), (.sl 13 (y2.items.map cGItem)), (.sl 3 (y2.from_.map cGSource)), (.sl 10 (y2.where_.map cGExpr)), (.sl 11 (y2.order.map cGSortKey)), (.i .i64 y2.limit)])) :: (22, (.d (.i .i64 x5))) :: (21, (.d (.sl 6 (p1.map cGQuery)))) :: (20, (vGQuery y1)) :: (19, (.rp [(.b y1.distinct), (.sl 13 (y1.items.map cGItem)), (.sl 3 (y1.from_.map cGSource)), (.sl 10 (y1.where_.map cGExpr)), (.sl 11 (y1.order.map cGSortKey)), (.i .i64 y1.limit)])) :: (18, (.d (.i .i64 x5))) :: (17, (.d (.sl 6 (p0.map cGQuery)))) :: (14, (.d (.b (decide (x5 < (p0.length : Int)))))) :: (13, (.d (.i .i64 (p0.length : Int)))) :: (12, (.d (.sl 6 (p0.map cGQuery)))) :: (11, (.d (.i .i64 x5))) :: (stwEqQueryS_L0 p0 p1 x5).env, (stwEqQueryS_L0 p0 p1 x5).bx⟩) (by kernel_rfl) ?_
        refine nil_in ?_
        exact loop_back (s' := stwEqQueryS_L0 p0 p1 (IntKind.wrap .i64 (x5 + 1))) (wk_ren [] (by kernel_rfl) (er_cons (vr_same (by kernel_rfl) (by kernel_rfl)) (er_cons (vr_same (by kernel_rfl) (by kernel_rfl)) (er_cons (vr_same (by kernel_rfl) (by kernel_rfl)) (er_nil)))) (br_nil)) (OK_wEqQueryS_L0 p0 p1 (IntKind.wrap .i64 (x5 + 1)) _ h)
    · clear h; intro h
      refine exit_in ?_
      refine thenK_exit ?_
      refine thenK_exit ?_
      refine blockK_here ?_
      refine next_in ?_
      refine seq_in ?_
      refine ops_in ?_
      refine sts_ok 1 (s' := ⟨(4, (.d (.b true))) :: (14, (.d (.b (decide (x5 < (p0.length : Int)))))) :: (13, (.d (.i .i64 (p0.length : Int)))) :: (12, (.d (.sl 6 (p0.map cGQuery)))) :: (11, (.d (.i .i64 x5))) :: (stwEqQueryS_L0 p0 p1 x5).env, (stwEqQueryS_L0 p0 p1 x5).bx⟩) (by kernel_rfl) ?_
      refine nil_in ?_
      refine next_in ?_
      refine ret_in ?_
      have h := Option.some.inj h; subst h
      exact ret1_step (v := (.d (.b true))) (by kernel_rfl) (by kernel_rfl) (by kernel_rfl)
  · intro F_wEqExprS F_wEqSortKeyS F_wEqSourceS F_wEqItemS OK_wEqExprS OK_wEqSortKeyS OK_wEqSourceS OK_wEqItemS p0 p1 r h
    refine acalls_of_fn trwEqQuery (Nat.le_of_ble_eq_true rfl) (by simp) ?_
    show avc Try.prog acwEqQuery (qwEqQuery _) ⟨[(0, (vGQuery p0)), (1, (vGQuery p1))], []⟩
    delta acwEqQuery
    refine seq_in ?_
    refine ops_in ?_
    refine sts_ok 3 (s' := ⟨[(4, (.d (.b false))), (3, (.ptr 3 0)), (2, (.ptr 2 0)), (0, (vGQuery p0)), (1, (vGQuery p1))], [(3, [(.d (.b p1.distinct)), (.d (.sl 13 (p1.items.map cGItem))), (.d (.sl 3 (p1.from_.map cGSource))), (.d (.sl 10 (p1.where_.map cGExpr))), (.d (.sl 11 (p1.order.map cGSortKey))), (.d (.i .i64 p1.limit))]), (2, [(.d (.b p0.distinct)), (.d (.sl 13 (p0.items.map cGItem))), (.d (.sl 3 (p0.from_.map cGSource))), (.d (.sl 10 (p0.where_.map cGExpr))), (.d (.sl 11 (p0.order.map cGSortKey))), (.d (.i .i64 p0.limit))])]⟩) (by kernel_rfl) ?_
    refine nil_in ?_
    refine next_in ?_
    refine seq_in ?_
    refine seq_in ?_
    refine ops_in ?_
    refine sts_ok 5 (s' := ⟨[(9, (.d (.b (!(p0.distinct == p1.distinct))))), (8, (.d (.b p1.distinct))), (7, (.ptr 3 0)), (6, (.d (.b p0.distinct))), (5, (.ptr 2 0)), (4, (.d (.b false))), (3, (.ptr 3 0)), (2, (.ptr 2 0)), (0, (vGQuery p0)), (1, (vGQuery p1))], [(3, [(.d (.b p1.distinct)), (.d (.sl 13 (p1.items.map cGItem))), (.d (.sl 3 (p1.from_.map cGSource))), (.d (.sl 10 (p1.where_.map cGExpr))), (.d (.sl 11 (p1.order.map cGSortKey))), (.d (.i .i64 p1.limit))]), (2, [(.d (.b p0.distinct)), (.d (.sl 13 (p0.items.map cGItem))), (.d (.sl 3 (p0.from_.map cGSource))), (.d (.sl 10 (p0.where_.map cGExpr))), (.d (.sl 11 (p0.order.map cGSortKey))), (.d (.i .i64 p0.limit))])]⟩) (by kernel_rfl) ?_
    refine nil_in ?_
    refine next_in ?_
    refine cond_step h (by kernel_rfl) ?_ ?_
    · clear h; intro h
      refine seq_in ?_
      refine ops_in ?_
      refine sts_ok 1 (s' := ⟨[(4, (.d (.b false))), (9, (.d (.b (!(p0.distinct == p1.distinct))))), (8, (.d (.b p1.distinct))), (7, (.ptr 3 0)), (6, (.d (.b p0.distinct))), (5, (.ptr 2 0)), (4, (.d (.b false))), (3, (.ptr 3 0)), (2, (.ptr 2 0)), (0, (vGQuery p0)), (1, (vGQuery p1))], [(3, [(.d (.b p1.distinct)), (.d (.sl 13 (p1.items.map cGItem))), (.d (.sl 3 (p1.from_.map cGSource))), (.d (.sl 10 (p1.where_.map cGExpr))), (.d (.sl 11 (p1.order.map cGSortKey))), (.d (.i .i64 p1.limit))]), (2, [(.d (.b p0.distinct)), (.d (.sl 13 (p0.items.map cGItem))), (.d (.sl 3 (p0.from_.map cGSource))), (.d (.sl 10 (p0.where_.map cGExpr))), (.d (.sl 11 (p0.order.map cGSortKey))), (.d (.i .i64 p0.limit))])]⟩) (by kernel_rfl) ?_
      refine nil_in ?_
      refine next_in ?_
      refine ret_in ?_
      refine thenK_ret ?_
      have h := Option.some.inj h; subst h
      exact ret1_step (v := (.d (.b false))) (by kernel_rfl) (by kernel_rfl) (by kernel_rfl)
    · clear h; intro h
      refine skip_in ?_
      refine next_in ?_
      refine seq_in ?_
      refine seq_in ?_
      refine ops_in ?_
      refine sts_ok 4 (s' := ⟨[(13, (.d (.sl 13 (p1.items.map cGItem)))), (12, (.ptr 3 1)), (11, (.d (.sl 13 (p0.items.map cGItem)))), (10, (.ptr 2 1)), (9, (.d (.b (!(p0.distinct == p1.distinct))))), (8, (.d (.b p1.distinct))), (7, (.ptr 3 0)), (6, (.d (.b p0.distinct))), (5, (.ptr 2 0)), (4, (.d (.b false))), (3, (.ptr 3 0)), (2, (.ptr 2 0)), (0, (vGQuery p0)), (1, (vGQuery p1))], [(3, [(.d (.b p1.distinct)), (.d (.sl 13 (p1.items.map cGItem))), (.d (.sl 3 (p1.from_.map cGSource))), (.d (.sl 10 (p1.where_.map cGExpr))), (.d (.sl 11 (p1.order.map cGSortKey))), (.d (.i .i64 p1.limit))]), (2, [(.d (.b p0.distinct)), (.d (.sl 13 (p0.items.map cGItem))), (.d (.sl 3 (p0.from_.map cGSource))), (.d (.sl 10 (p0.where_.map cGExpr))), (.d (.sl 11 (p0.order.map cGSortKey))), (.d (.i .i64 p0.limit))])]⟩) (by kernel_rfl) ?_
      refine call_step (m := F_wEqItemS p0.items p1.items) (args := [(.d (.sl 13 (p0.items.map cGItem))), (.d (.sl 13 (p1.items.map cGItem)))]) (v' := (fun y => (.d (.b y)))) h (OK_wEqItemS p0.items p1.items) (by kernel_rfl) (by kernel_rfl) (fun _ => rfl) ?_
      clear h; intro y1 h
      refine sts_ok 1 (s' := ⟨[(15, (.d (.b (!y1)))), (14, (.d (.b y1))), (13, (.d (.sl 13 (p1.items.map cGItem)))), (12, (.ptr 3 1)), (11, (.d (.sl 13 (p0.items.map cGItem)))), (10, (.ptr 2 1)), (9, (.d (.b (!(p0.distinct == p1.distinct))))), (8, (.d (.b p1.distinct))), (7, (.ptr 3 0)), (6, (.d (.b p0.distinct))), (5, (.ptr 2 0)), (4, (.d (.b false))), (3, (.ptr 3 0)), (2, (.ptr 2 0)), (0, (vGQuery p0)), (1, (vGQuery p1))], [(3, [(.d (.b p1.distinct)), (.d (.sl 13 (p1.items.map cGItem))), (.d (.sl 3 (p1.from_.map cGSource))), (.d (.sl 10 (p1.where_.map cGExpr))), (.d (.sl 11 (p1.order.map cGSortKey))), (.d (.i .i64 p1.limit))]), (2, [(.d (.b p0.distinct)), (.d (.sl 13 (p0.items.map cGItem))), (.d (.sl 3 (p0.from_.map cGSource))), (.d (.sl 10 (p0.where_.map cGExpr))), (.d (.sl 11 (p0.order.map cGSortKey))), (.d (.i .i64 p0.limit))])]⟩) (by kernel_rfl) ?_
      refine nil_in ?_
      refine next_in ?_
      refine cond_step h (by kernel_rfl) ?_ ?_
      · clear h; intro h
        refine seq_in ?_
        refine ops_in ?_
        refine sts_ok 1 (s' := ⟨[(4, (.d (.b false))), (15, (.d (.b (!y1)))), (14, (.d (.b y1))), (13, (.d (.sl 13 (p1.items.map cGItem)))), (12, (.ptr 3 1)), (11, (.d (.sl 13 (p0.items.map cGItem)))), (10, (.ptr 2 1)), (9, (.d (.b (!(p0.distinct == p1.distinct))))), (8, (.d (.b p1.distinct))), (7, (.ptr 3 0)), (6, (.d (.b p0.distinct))), (5, (.ptr 2 0)), (4, (.d (.b false))), (3, (.ptr 3 0)), (2, (.ptr 2 0)), (0, (vGQuery p0)), (1, (vGQuery p1))], [(3, [(.d (.b p1.distinct)), (.d (.sl 13 (p1.items.map cGItem))), (.d (.sl 3 (p1.from_.map cGSource))), (.d (.sl 10 (p1.where_.map cGExpr))), (.d (.sl 11 (p1.order.map cGSortKey))), (.d (.i .i64 p1.limit))]), (2, [(.d (.b p0.distinct)), (.d (.sl 13 (p0.items.map cGItem))), (.d (.sl 3 (p0.from_.map cGSource))), (.d (.sl 10 (p0.where_.map cGExpr))), (.d (.sl 11 (p0.order.map cGSortKey))), (.d (.i .i64 p0.limit))])]⟩) (by kernel_rfl) ?_
        refine nil_in ?_
        refine next_in ?_
        refine ret_in ?_
        refine thenK_ret ?_
        have h := Option.some.inj h; subst h
        exact ret1_step (v := (.d (.b false))) (by kernel_rfl) (by kernel_rfl) (by kernel_rfl)
      · clear h; intro h
        refine skip_in ?_
        refine next_in ?_
        refine seq_in ?_
        refine seq_in ?_
        refine ops_in ?_
        refine sts_ok 4 (s' := ⟨[(19, (.d (.sl 3 (p1.from_.map cGSource)))), (18, (.ptr 3 2)), (17, (.d (.sl 3 (p0.from_.map cGSource)))), (16, (.ptr 2 2)), (15, (.d (.b (!y1)))), (14, (.d (.b y1))), (13, (.d (.sl 13 (p1.items.map cGItem)))), (12, (.ptr 3 1)), (11, (.d (.sl 13 (p0.items.map cGItem)))), (10, (.ptr 2 1)), (9, (.d (.b (!(p0.distinct == p1.distinct))))), (8, (.d (.b p1.distinct))), (7, (.ptr 3 0)), (6, (.d (.b p0.distinct))), (5, (.ptr 2 0)), (4, (.d (.b false))), (3, (.ptr 3 0)), (2, (.ptr 2 0)), (0, (vGQuery p0)), (1, (vGQuery p1))], [(3, [(.d (.b p1.distinct)), (.d (.sl 13 (p1.items.map cGItem))), (.d (.sl 3 (p1.from_.map cGSource))), (.d (.sl 10 (p1.where_.map cGExpr))), (.d (.sl 11 (p1.order.map cGSortKey))), (.d (.i .i64 p1.limit))]), (2, [(.d (.b p0.distinct)), (.d (.sl 13 (p0.items.map cGItem))), (.d (.sl 3 (p0.from_.map cGSource))), (.d (.sl 10 (p0.where_.map cGExpr))), (.d (.sl 11 (p0.order.map cGSortKey))), (.d (.i .i64 p0.limit))])]⟩) (by kernel_rfl) ?_
        refine call_step (m := F_wEqSourceS p0.from_ p1.from_) (args := [(.d (.sl 3 (p0.from_.map cGSource))), (.d (.sl 3 (p1.from_.map cGSource)))]) (v' := (fun y => (.d (.b y)))) h (OK_wEqSourceS p0.from_ p1.from_) (by kernel_rfl) (by kernel_rfl) (fun _ => rfl) ?_
        clear h; intro y2 h
        refine sts_ok 1 (s' := ⟨[(21, (.d (.b (!y2)))), (20, (.d (.b y2))), (19, (.d (.sl 3 (p1.from_.map cGSource)))), (18, (.ptr 3 2)), (17, (.d (.sl 3 (p0.from_.map cGSource)))), (16, (.ptr 2 2)), (15, (.d (.b (!y1)))), (14, (.d (.b y1))), (13, (.d (.sl 13 (p1.items.map cGItem)))), (12, (.ptr 3 1)), (11, (.d (.sl 13 (p0.items.map cGItem)))), (10, (.ptr 2 1)), (9, (.d (.b (!(p0.distinct == p1.distinct))))), (8, (.d (.b p1.distinct))), (7, (.ptr 3 0)), (6, (.d (.b p0.distinct))), (5, (.ptr 2 0)), (4, (.d (.b false))), (3, (.ptr 3 0)), (2, (.ptr 2 0)), (0, (vGQuery p0)), (1, (vGQuery p1))], [(3, [(.d (.b p1.distinct)), (.d (.sl 13 (p1.items.map cGItem))), (.d (.sl 3 (p1.from_.map cGSource))), (.d (.sl 10 (p1.where_.map cGExpr))), (.d (.sl 11 (p1.order.map cGSortKey))), (.d (.i .i64 p1.limit))]), (2, [(.d (.b p0.distinct)), (.d (.sl 13 (p0.items.map cGItem))), (.d (.sl 3 (p0.from_.map cGSource))), (.d (.sl 10 (p0.where_.map cGExpr))), (.d (.sl 11 (p0.order.map cGSortKey))), (.d (.i .i64 p0.limit))])]⟩) (by kernel_rfl) ?_
        refine nil_in ?_
        refine next_in ?_
        refine cond_step h (by kernel_rfl) ?_ ?_
        · clear h; intro h
          refine seq_in ?_
          refine ops_in ?_
          refine sts_ok 1 (s' := ⟨[(4, (.d (.b false))), (21, (.d (.b (!y2)))), (20, (.d (.b y2))), (19, (.d (.sl 3 (p1.from_.map cGSource)))), (18, (.ptr 3 2)), (17, (.d (.sl 3 (p0.from_.map cGSource)))), (16, (.ptr 2 2)), (15, (.d (.b (!y1)))), (14, (.d (.b y1))), (13, (.d (.sl 13 (p1.items.map cGItem)))), (12, (.ptr 3 1)), (11, (.d (.sl 13 (p0.items.map cGItem)))), (10, (.ptr 2 1)), (9, (.d (.b (!(p0.distinct == p1.distinct))))), (8, (.d (.b p1.distinct))), (7, (.ptr 3 0)), (6, (.d (.b p0.distinct))), (5, (.ptr 2 0)), (4, (.d (.b false))), (3, (.ptr 3 0)), (2, (.ptr 2 0)), (0, (vGQuery p0)), (1, (vGQuery p1))], [(3, [(.d (.b p1.distinct)), (.d (.sl 13 (p1.items.map cGItem))), (.d (.sl 3 (p1.from_.map cGSource))), (.d (.sl 10 (p1.where_.map cGExpr))), (.d (.sl 11 (p1.order.map cGSortKey))), (.d (.i .i64 p1.limit))]), (2, [(.d (.b p0.distinct)), (.d (.sl 13 (p0.items.map cGItem))), (.d (.sl 3 (p0.from_.map cGSource))), (.d (.sl 10 (p0.where_.map cGExpr))), (.d (.sl 11 (p0.order.map cGSortKey))), (.d (.i .i64 p0.limit))])]⟩) (by kernel_rfl) ?_
          refine nil_in ?_
          refine next_in ?_
          refine ret_in ?_
          refine thenK_ret ?_
          have h := Option.some.inj h; subst h
          exact ret1_step (v := (.d (.b false))) (by kernel_rfl) (by kernel_rfl) (by kernel_rfl)
        · clear h; intro h
          refine skip_in ?_
          refine next_in ?_
          refine seq_in ?_
          refine seq_in ?_
          refine ops_in ?_
          refine sts_ok 4 (s' := ⟨[(25, (.d (.sl 10 (p1.where_.map cGExpr)))), (24, (.ptr 3 3)), (23, (.d (.sl 10 (p0.where_.map cGExpr)))), (22, (.ptr 2 3)), (21, (.d (.b (!y2)))), (20, (.d (.b y2))), (19, (.d (.sl 3 (p1.from_.map cGSource)))), (18, (.ptr 3 2)), (17, (.d (.sl 3 (p0.from_.map cGSource)))), (16, (.ptr 2 2)), (15, (.d (.b (!y1)))), (14, (.d (.b y1))), (13, (.d (.sl 13 (p1.items.map cGItem)))), (12, (.ptr 3 1)), (11, (.d (.sl 13 (p0.items.map cGItem)))), (10, (.ptr 2 1)), (9, (.d (.b (!(p0.distinct == p1.distinct))))), (8, (.d (.b p1.distinct))), (7, (.ptr 3 0)), (6, (.d (.b p0.distinct))), (5, (.ptr 2 0)), (4, (.d (.b false))), (3, (.ptr 3 0)), (2, (.ptr 2 0)), (0, (vGQuery p0)), (1, (vGQuery p1))], [(3, [(.d (.b p1.distinct)), (.d (.sl 13 (p1.items.map cGItem))), (.d (.sl 3 (p1.from_.map cGSource))), (.d (.sl 10 (p1.where_.map cGExpr))), (.d (.sl 11 (p1.order.map cGSortKey))), (.d (.i .i64 p1.limit))]), (2, [(.d (.b p0.distinct)), (.d (.sl 13 (p0.items.map cGItem))), (.d (.sl 3 (p0.from_.map cGSource))), (.d (.sl 10 (p0.where_.map cGExpr))), (.d (.sl 11 (p0.order.map cGSortKey))), (.d (.i .i64 p0.limit))])]⟩) (by kernel_rfl) ?_
          refine call_step (m := F_wEqExprS p0.where_ p1.where_) (args := [(.d (.sl 10 (p0.where_.map cGExpr))), (.d (.sl 10 (p1.where_.map cGExpr)))]) (v' := (fun y => (.d (.b y)))) h (OK_wEqExprS p0.where_ p1.where_) (by kernel_rfl) (by kernel_rfl) (fun _ => rfl) ?_
          clear h; intro y3 h
          refine sts_ok 1 (s' := ⟨[(27, (.d (.b (!y3)))), (26, (.d (.b y3))), (25, (.d (.sl 10 (p1.where_.map cGExpr)))), (24, (.ptr 3 3)), (23, (.d (.sl 10 (p0.where_.map cGExpr)))), (22, (.ptr 2 3)), (21, (.d (.b (!y2)))), (20, (.d (.b y2))), (19, (.d (.sl 3 (p1.from_.map cGSource)))), (18, (.ptr 3 2)), (17, (.d (.sl 3 (p0.from_.map cGSource)))), (16, (.ptr 2 2)), (15, (.d (.b (!y1)))), (14, (.d (.b y1))), (13, (.d (.sl 13 (p1.items.map cGItem)))), (12, (.ptr 3 1)), (11, (.d (.sl 13 (p0.items.map cGItem)))), (10, (.ptr 2 1)), (9, (.d (.b (!(p0.distinct == p1.distinct))))), (8, (.d (.b p1.distinct))), (7, (.ptr 3 0)), (6, (.d (.b p0.distinct))), (5, (.ptr 2 0)), (4, (.d (.b false))), (3, (.ptr 3 0)), (2, (.ptr 2 0)), (0, (vGQuery p0)), (1, (vGQuery p1))], [(3, [(.d (.b p1.distinct)), (.d (.sl 13 (p1.items.map cGItem))), (.d (.sl 3 (p1.from_.map cGSource))), (.d (.sl 10 (p1.where_.map cGExpr))), (.d (.sl 11 (p1.order.map cGSortKey))), (.d (.i .i64 p1.limit))]), (2, [(.d (.b p0.distinct)), (.d (.sl 13 (p0.items.map cGItem))), (.d (.sl 3 (p0.from_.map cGSource))), (.d (.sl 10 (p0.where_.map cGExpr))), (.d (.sl 11 (p0.order.map cGSortKey))), (.d (.i .i64 p0.limit))])]⟩) (by kernel_rfl) ?_
          refine nil_in ?_
          refine next_in ?_
          refine cond_step h (by kernel_rfl) ?_ ?_
          · clear h; intro h
            refine seq_in ?_
            refine ops_in ?_
            refine sts_ok 1 (s' := ⟨[(4, (.d (.b false))), (27, (.d (.b (!y3)))), (26, (.d (.b y3))), (25, (.d (.sl 10 (p1.where_.map cGExpr)))), (24, (.ptr 3 3)), (23, (.d (.sl 10 (p0.where_.map cGExpr)))), (22, (.ptr 2 3)), (21, (.d (.b (!y2)))), (20, (.d (.b y2))), (19, (.d (.sl 3 (p1.from_.map cGSource)))), (18, (.ptr 3 2)), (17, (.d (.sl 3 (p0.from_.map cGSource)))), (16, (.ptr 2 2)), (15, (.d (.b (!y1)))), (14, (.d (.b y1))), (13, (.d (.sl 13 (p1.items.map cGItem)))), (12, (.ptr 3 1)), (11, (.d (.sl 13 (p0.items.map cGItem)))), (10, (.ptr 2 1)), (9, (.d (.b (!(p0.distinct == p1.distinct))))), (8, (.d (.b p1.distinct))), (7, (.ptr 3 0)), (6, (.d (.b p0.distinct))), (5, (.ptr 2 0)), (4, (.d (.b false))), (3, (.ptr 3 0)), (2, (.ptr 2 0)), (0, (vGQuery p0)), (1, (vGQuery p1))], [(3, [(.d (.b p1.distinct)), (.d (.sl 13 (p1.items.map cGItem))), (.d (.sl 3 (p1.from_.map cGSource))), (.d (.sl 10 (p1.where_.map cGExpr))), (.d (.sl 11 (p1.order.map cGSortKey))), (.d (.i .i64 p1.limit))]), (2, [(.d (.b p0.distinct)), (.d (.sl 13 (p0.items.map cGItem))), (.d (.sl 3 (p0.from_.map cGSource))), (.d (.sl 10 (p0.where_.map cGExpr))), (.d (.sl 11 (p0.order.map cGSortKey))), (.d (.i .i64 p0.limit))])]⟩) (by kernel_rfl) ?_
            refine nil_in ?_
            refine next_in ?_
            refine ret_in ?_
            refine thenK_ret ?_
            have h := Option.some.inj h; subst h
            exact ret1_step (v := (.d (.b false))) (by kernel_rfl) (by kernel_rfl) (by kernel_rfl)
          · clear h; intro h
            refine skip_in ?_
            refine next_in ?_
            refine seq_in ?_
            refine seq_in ?_
            refine ops_in ?_
            refine sts_ok 4 (s' := ⟨[(31, (.d (.sl 11 (p1.order.map cGSortKey)))), (30, (.ptr 3 4)), (29, (.d (.sl 11 (p0.order.map cGSortKey)))), (28, (.ptr 2 4)), (27, (.d (.b (!y3)))), (26, (.d (.b y3))), (25, (.d (.sl 10 (p1.where_.map cGExpr)))), (24, (.ptr 3 3)), (23, (.d (.sl 10 (p0.where_.map cGExpr)))), (22, (.ptr 2 3)), (21, (.d (.b (!y2)))), (20, (.d (.b y2))), (19, (.d (.sl 3 (p1.from_.map cGSource)))), (18, (.ptr 3 2)), (17, (.d (.sl 3 (p0.from_.map cGSource)))), (16, (.ptr 2 2)), (15, (.d (.b (!y1)))), (14, (.d (.b y1))), (13, (.d (.sl 13 (p1.items.map cGItem)))), (12, (.ptr 3 1)), (11, (.d (.sl 13 (p0.items.map cGItem)))), (10, (.ptr 2 1)), (9, (.d (.b (!(p0.distinct == p1.distinct))))), (8, (.d (.b p1.distinct))), (7, (.ptr 3 0)), (6, (.d (.b p0.distinct))), (5, (.ptr 2 0)), (4, (.d (.b false))), (3, (.ptr 3 0)), (2, (.ptr 2 0)), (0, (vGQuery p0)), (1, (vGQuery p1))], [(3, [(.d (.b p1.distinct)), (.d (.sl 13 (p1.items.map cGItem))), (.d (.sl 3 (p1.from_.map cGSource))), (.d (.sl 10 (p1.where_.map cGExpr))), (.d (.sl 11 (p1.order.map cGSortKey))), (.d (.i .i64 p1.limit))]), (2, [(.d (.b p0.distinct)), (.d (.sl 13 (p0.items.map cGItem))), (.d (.sl 3 (p0.from_.map cGSource))), (.d (.sl 10 (p0.where_.map cGExpr))), (.d (.sl 11 (p0.order.map cGSortKey))), (.d (.i .i64 p0.limit))])]⟩) (by kernel_rfl) ?_
            refine call_step (m := F_wEqSortKeyS p0.order p1.order) (args := [(.d (.sl 11 (p0.order.map cGSortKey))), (.d (.sl 11 (p1.order.map cGSortKey)))]) (v' := (fun y => (.d (.b y)))) h (OK_wEqSortKeyS p0.order p1.order) (by kernel_rfl) (by kernel_rfl) (fun _ => rfl) ?_
            clear h; intro y4 h
            refine sts_ok 1 (s' := ⟨[(33, (.d (.b (!y4)))), (32, (.d (.b y4))), (31, (.d (.sl 11 (p1.order.map cGSortKey)))), (30, (.ptr 3 4)), (29, (.d (.sl 11 (p0.order.map cGSortKey)))), (28, (.ptr 2 4)), (27, (.d (.b (!y3)))), (26, (.d (.b y3))), (25, (.d (.sl 10 (p1.where_.map cGExpr)))), (24, (.ptr 3 3)), (23, (.d (.sl 10 (p0.where_.map cGExpr)))), (22, (.ptr 2 3)), (21, (.d (.b (!y2)))), (20, (.d (.b y2))), (19, (.d (.sl 3 (p1.from_.map cGSource)))), (18, (.ptr 3 2)), (17, (.d (.sl 3 (p0.from_.map cGSource)))), (16, (.ptr 2 2)), (15, (.d (.b (!y1)))), (14, (.d (.b y1))), (13, (.d (.sl 13 (p1.items.map cGItem)))), (12, (.ptr 3 1)), (11, (.d (.sl 13 (p0.items.map cGItem)))), (10, (.ptr 2 1)), (9, (.d (.b (!(p0.distinct == p1.distinct))))), (8, (.d (.b p1.distinct))), (7, (.ptr 3 0)), (6, (.d (.b p0.distinct))), (5, (.ptr 2 0)), (4, (.d (.b false))), (3, (.ptr 3 0)), (2, (.ptr 2 0)), (0, (vGQuery p0)), (1, (vGQuery p1))], [(3, [(.d (.b p1.distinct)), (.d (.sl 13 (p1.items.map cGItem))), (.d (.sl 3 (p1.from_.map cGSource))), (.d (.sl 10 (p1.where_.map cGExpr))), (.d (.sl 11 (p1.order.map cGSortKey))), (.d (.i .i64 p1.limit))]), (2, [(.d (.b p0.distinct)), (.d (.sl 13 (p0.items.map cGItem))), (.d (.sl 3 (p0.from_.map cGSource))), (.d (.sl 10 (p0.where_.map cGExpr))), (.d (.sl 11 (p0.order.map cGSortKey))), (.d (.i .i64 p0.limit))])]⟩) (by kernel_rfl) ?_
            refine nil_in ?_
            refine next_in ?_
            refine cond_step h (by kernel_rfl) ?_ ?_
            · clear h; intro h
              refine seq_in ?_
              refine ops_in ?_
              refine sts_ok 1 (s' := ⟨[(4, (.d (.b false))), (33, (.d (.b (!y4)))), (32, (.d (.b y4))), (31, (.d (.sl 11 (p1.order.map cGSortKey)))), (30, (.ptr 3 4)), (29, (.d (.sl 11 (p0.order.map cGSortKey)))), (28, (.ptr 2 4)), (27, (.d (.b (!y3)))), (26, (.d (.b y3))), (25, (.d (.sl 10 (p1.where_.map cGExpr)))), (24, (.ptr 3 3)), (23, (.d (.sl 10 (p0.where_.map cGExpr)))), (22, (.ptr 2 3)), (21, (.d (.b (!y2)))), (20, (.d (.b y2))), (19, (.d (.sl 3 (p1.from_.map cGSource)))), (18, (.ptr 3 2)), (17, (.d (.sl 3 (p0.from_.map cGSource)))), (16, (.ptr 2 2)), (15, (.d (.b (!y1)))), (14, (.d (.b y1))), (13, (.d (.sl 13 (p1.items.map cGItem)))), (12, (.ptr 3 1)), (11, (.d (.sl 13 (p0.items.map cGItem)))), (10, (.ptr 2 1)), (9, (.d (.b (!(p0.distinct == p1.distinct))))), (8, (.d (.b p1.distinct))), (7, (.ptr 3 0)), (6, (.d (.b p0.distinct))), (5, (.ptr 2 0)), (4, (.d (.b false))), (3, (.ptr 3 0)), (2, (.ptr 2 0)), (0, (vGQuery p0)), (1, (vGQuery p1))], [(3, [(.d (.b p1.distinct)), (.d (.sl 13 (p1.items.map cGItem))), (.d (.sl 3 (p1.from_.map cGSource))), (.d (.sl 10 (p1.where_.map cGExpr))), (.d (.sl 11 (p1.order.map cGSortKey))), (.d (.i .i64 p1.limit))]), (2, [(.d (.b p0.distinct)), (.d (.sl 13 (p0.items.map cGItem))), (.d (.sl 3 (p0.from_.map cGSource))), (.d (.sl 10 (p0.where_.map cGExpr))), (.d (.sl 11 (p0.order.map cGSortKey))), (.d (.i .i64 p0.limit))])]⟩) (by kernel_rfl) ?_
              refine nil_in ?_
              refine next_in ?_
              refine ret_in ?_
              refine thenK_ret ?_
              have h := Option.some.inj h; subst h
              exact ret1_step (v := (.d (.b false))) (by kernel_rfl) (by kernel_rfl) (by kernel_rfl)
            · clear h; intro h
              refine skip_in ?_
              refine next_in ?_
              refine seq_in ?_
              refine seq_in ?_
              refine ops_in ?_
              refine sts_ok 5 (s' := ⟨[(38, (.d (.b (!decide (p0.limit = p1.limit))))), (37, (.d (.i .i64 p1.limit))), (36, (.ptr 3 5)), (35, (.d (.i .i64 p0.limit))), (34, (.ptr 2 5)), (33, (.d (.b (!y4)))), (32, (.d (.b y4))), (31, (.d (.sl 11 (p1.order.map cGSortKey)))), (30, (.ptr 3 4)), (29, (.d (.sl 11 (p0.order.map cGSortKey)))), (28, (.ptr 2 4)), (27, (.d (.b (!y3)))), (26, (.d (.b y3))), (25, (.d (.sl 10 (p1.where_.map cGExpr)))), (24, (.ptr 3 3)), (23, (.d (.sl 10 (p0.where_.map cGExpr)))), (22, (.ptr 2 3)), (21, (.d (.b (!y2)))), (20, (.d (.b y2))), (19, (.d (.sl 3 (p1.from_.map cGSource)))), (18, (.ptr 3 2)), (17, (.d (.sl 3 (p0.from_.map cGSource)))), (16, (.ptr 2 2)), (15, (.d (.b (!y1)))), (14, (.d (.b y1))), (13, (.d (.sl 13 (p1.items.map cGItem)))), (12, (.ptr 3 1)), (11, (.d (.sl 13 (p0.items.map cGItem)))), (10, (.ptr 2 1)), (9, (.d (.b (!(p0.distinct == p1.distinct))))), (8, (.d (.b p1.distinct))), (7, (.ptr 3 0)), (6, (.d (.b p0.distinct))), (5, (.ptr 2 0)), (4, (.d (.b false))), (3, (.ptr 3 0)), (2, (.ptr 2 0)), (0, (vGQuery p0)), (1, (vGQuery p1))], [(3, [(.d (.b p1.distinct)), (.d (.sl 13 (p1.items.map cGItem))), (.d (.sl 3 (p1.from_.map cGSource))), (.d (.sl 10 (p1.where_.map cGExpr))), (.d (.sl 11 (p1.order.map cGSortKey))), (.d (.i .i64 p1.limit))]), (2, [(.d (.b p0.distinct)), (.d (.sl 13 (p0.items.map cGItem))), (.d (.sl 3 (p0.from_.map cGSource))), (.d (.sl 10 (p0.where_.map cGExpr))), (.d (.sl 11 (p0.order.map cGSortKey))), (.d (.i .i64 p0.limit))])]⟩) (by kernel_rfl) ?_
              refine nil_in ?_
              refine next_in ?_
              refine cond_step h (by kernel_rfl) ?_ ?_
              · clear h; intro h
                refine seq_in ?_
                refine ops_in ?_
                refine sts_ok 1 (s' := ⟨[(4, (.d (.b false))), (38, (.d (.b (!decide (p0.limit = p1.limit))))), (37, (.d (.i .i64 p1.limit))), (36, (.ptr 3 5)), (35, (.d (.i .i64 p0.limit))), (34, (.ptr 2 5)), (33, (.d (.b (!y4)))), (32, (.d (.b y4))), (31, (.d (.sl 11 (p1.order.map cGSortKey)))), (30, (.ptr 3 4)), (29, (.d (.sl 11 (p0.order.map cGSortKey)))), (28, (.ptr 2 4)), (27, (.d (.b (!y3)))), (26, (.d (.b y3))), (25, (.d (.sl 10 (p1.where_.map cGExpr)))), (24, (.ptr 3 3)), (23, (.d (.sl 10 (p0.where_.map cGExpr)))), (22, (.ptr 2 3)), (21, (.d (.b (!y2)))), (20, (.d (.b y2))), (19, (.d (.sl 3 (p1.from_.map cGSource)))), (18, (.ptr 3 2)), (17, (.d (.sl 3 (p0.from_.map cGSource)))), (16, (.ptr 2 2)), (15, (.d (.b (!y1)))), (14, (.d (.b y1))), (13, (.d (.sl 13 (p1.items.map cGItem)))), (12, (.ptr 3 1)), (11, (.d (.sl 13 (p0.items.map cGItem)))), (10, (.ptr 2 1)), (9, (.d (.b (!(p0.distinct == p1.distinct))))), (8, (.d (.b p1.distinct))), (7, (.ptr 3 0)), (6, (.d (.b p0.distinct))), (5, (.ptr 2 0)), (4, (.d (.b false))), (3, (.ptr 3 0)), (2, (.ptr 2 0)), (0, (vGQuery p0)), (1, (vGQuery p1))], [(3, [(.d (.b p1.distinct)), (.d (.sl 13 (p1.items.map cGItem))), (.d (.sl 3 (p1.from_.map cGSource))), (.d (.sl 10 (p1.where_.map cGExpr))), (.d (.sl 11 (p1.order.map cGSortKey))), (.d (.i .i64 p1.limit))]), (2, [(.d (.b p0.distinct)), (.d (.sl 13 (p0.items.map cGItem))), (.d (.sl 3 (p0.from_.map cGSource))), (.d (.sl 10 (p0.where_.map cGExpr))), (.d (.sl 11 (p0.order.map cGSortKey))), (.d (.i .i64 p0.limit))])]⟩) (by kernel_rfl) ?_
                refine nil_in ?_
                refine next_in ?_
                refine ret_in ?_
                refine thenK_ret ?_
                have h := Option.some.inj h; subst h
                exact ret1_step (v := (.d (.b false))) (by kernel_rfl) (by kernel_rfl) (by kernel_rfl)
              · clear h; intro h
                refine skip_in ?_
                refine next_in ?_
                refine seq_in ?_
                refine ops_in ?_
                refine sts_ok 1 (s' := ⟨[(4, (.d (.b true))), (38, (.d (.b (!decide (p0.limit = p1.limit))))), (37, (.d (.i .i64 p1.limit))), (36, (.ptr 3 5)), (35, (.d (.i .i64 p0.limit))), (34, (.ptr 2 5)), (33, (.d (.b (!y4)))), (32, (.d (.b y4))), (31, (.d (.sl 11 (p1.order.map cGSortKey)))), (30, (.ptr 3 4)), (29, (.d (.sl 11 (p0.order.map cGSortKey)))), (28, (.ptr 2 4)), (27, (.d (.b (!y3)))), (26, (.d (.b y3))), (25, (.d (.sl 10 (p1.where_.map cGExpr)))), (24, (.ptr 3 3)), (23, (.d (.sl 10 (p0.where_.map cGExpr)))), (22, (.ptr 2 3)), (21, (.d (.b (!y2)))), (20, (.d (.b y2))), (19, (.d (.sl 3 (p1.from_.map cGSource)))), (18, (.ptr 3 2)), (17, (.d (.sl 3 (p0.from_.map cGSource)))), (16, (.ptr 2 2)), (15, (.d (.b (!y1)))), (14, (.d (.b y1))), (13, (.d (.sl 13 (p1.items.map cGItem)))), (12, (.ptr 3 1)), (11, (.d (.sl 13 (p0.items.map cGItem)))), (10, (.ptr 2 1)), (9, (.d (.b (!(p0.distinct == p1.distinct))))), (8, (.d (.b p1.distinct))), (7, (.ptr 3 0)), (6, (.d (.b p0.distinct))), (5, (.ptr 2 0)), (4, (.d (.b false))), (3, (.ptr 3 0)), (2, (.ptr 2 0)), (0, (vGQuery p0)), (1, (vGQuery p1))], [(3, [(.d (.b p1.distinct)), (.d (.sl 13 (p1.items.map cGItem))), (.d (.sl 3 (p1.from_.map cGSource))), (.d (.sl 10 (p1.where_.map cGExpr))), (.d (.sl 11 (p1.order.map cGSortKey))), (.d (.i .i64 p1.limit))]), (2, [(.d (.b p0.distinct)), (.d (.sl 13 (p0.items.map cGItem))), (.d (.sl 3 (p0.from_.map cGSource))), (.d (.sl 10 (p0.where_.map cGExpr))), (.d (.sl 11 (p0.order.map cGSortKey))), (.d (.i .i64 p0.limit))])]⟩) (by kernel_rfl) ?_
                refine nil_in ?_
                refine next_in ?_
                refine ret_in ?_
                have h := Option.some.inj h; subst h
                exact ret1_step (v := (.d (.b true))) (by kernel_rfl) (by kernel_rfl) (by kernel_rfl)
  · intro F_wEqSortKeyS_L0 OK_wEqSortKeyS_L0 p0 p1 r h
    refine acalls_of_fn trwEqSortKeyS (Nat.le_of_ble_eq_true rfl) (by simp) ?_
    show avc Try.prog acwEqSortKeyS (qwEqSortKeyS _) ⟨[(0, (.d (.sl 11 (p0.map cGSortKey)))), (1, (.d (.sl 11 (p1.map cGSortKey))))], []⟩
    delta acwEqSortKeyS
    refine seq_in ?_
    refine ops_in ?_
    refine sts_ok 1 (s' := ⟨[(4, (.d (.b false))), (0, (.d (.sl 11 (p0.map cGSortKey)))), (1, (.d (.sl 11 (p1.map cGSortKey))))], []⟩) (by kernel_rfl) ?_
    refine nil_in ?_
    refine next_in ?_
    refine seq_in ?_
    refine seq_in ?_
    refine ops_in ?_
    refine sts_ok 1 (s' := ⟨[(6, (.d (.sl 11 (p0.map cGSortKey)))), (4, (.d (.b false))), (0, (.d (.sl 11 (p0.map cGSortKey)))), (1, (.d (.sl 11 (p1.map cGSortKey))))], []⟩) (by kernel_rfl) ?_
    refine p_step (v' := (.d (.i .i64 (p0.length : Int)))) rfl rfl (vop_len (sz := 11) (l := p0) (f := cGSortKey) (by kernel_rfl) (by kernel_rfl)) ?_
    refine sts_ok 1 (s' := ⟨[(8, (.d (.sl 11 (p1.map cGSortKey)))), (7, (.d (.i .i64 (p0.length : Int)))), (6, (.d (.sl 11 (p0.map cGSortKey)))), (4, (.d (.b false))), (0, (.d (.sl 11 (p0.map cGSortKey)))), (1, (.d (.sl 11 (p1.map cGSortKey))))], []⟩) (by kernel_rfl) ?_
    refine p_step (v' := (.d (.i .i64 (p1.length : Int)))) rfl rfl (vop_len (sz := 11) (l := p1) (f := cGSortKey) (by kernel_rfl) (by kernel_rfl)) ?_
    refine sts_ok 1 (s' := ⟨[(10, (.d (.b (!decide ((p0.length : Int) = (p1.length : Int)))))), (9, (.d (.i .i64 (p1.length : Int)))), (8, (.d (.sl 11 (p1.map cGSortKey)))), (7, (.d (.i .i64 (p0.length : Int)))), (6, (.d (.sl 11 (p0.map cGSortKey)))), (4, (.d (.b false))), (0, (.d (.sl 11 (p0.map cGSortKey)))), (1, (.d (.sl 11 (p1.map cGSortKey))))], []⟩) (by kernel_rfl) ?_
    refine nil_in ?_
    refine next_in ?_
    refine cond_step h (by kernel_rfl) ?_ ?_
    · clear h; intro h
      refine seq_in ?_
      refine ops_in ?_
      refine sts_ok 1 (s' := ⟨[(4, (.d (.b false))), (10, (.d (.b (!decide ((p0.length : Int) = (p1.length : Int)))))), (9, (.d (.i .i64 (p1.length : Int)))), (8, (.d (.sl 11 (p1.map cGSortKey)))), (7, (.d (.i .i64 (p0.length : Int)))), (6, (.d (.sl 11 (p0.map cGSortKey)))), (4, (.d (.b false))), (0, (.d (.sl 11 (p0.map cGSortKey)))), (1, (.d (.sl 11 (p1.map cGSortKey))))], []⟩) (by kernel_rfl) ?_
      refine nil_in ?_
      refine next_in ?_
      refine ret_in ?_
      refine thenK_ret ?_
      have h := Option.some.inj h; subst h
      exact ret1_step (v := (.d (.b false))) (by kernel_rfl) (by kernel_rfl) (by kernel_rfl)
    · clear h; intro h
      refine skip_in ?_
      refine next_in ?_
      refine seq_in ?_
      refine seq_in ?_
      refine ops_in ?_
      refine sts_ok 1 (s' := ⟨[(5, (.d (.i .i64 0))), (10, (.d (.b (!decide ((p0.length : Int) = (p1.length : Int)))))), (9, (.d (.i .i64 (p1.length : Int)))), (8, (.d (.sl 11 (p1.map cGSortKey)))), (7, (.d (.i .i64 (p0.length : Int)))), (6, (.d (.sl 11 (p0.map cGSortKey)))), (4, (.d (.b false))), (0, (.d (.sl 11 (p0.map cGSortKey)))), (1, (.d (.sl 11 (p1.map cGSortKey))))], []⟩) (by kernel_rfl) ?_
      refine nil_in ?_
      refine next_in ?_
      refine block_in ?_
      exact loop_go (s' := stwEqSortKeyS_L0 p0 p1 0) (wk_ren [] (by kernel_rfl) (er_cons (vr_same (by kernel_rfl) (by kernel_rfl)) (er_cons (vr_same (by kernel_rfl) (by kernel_rfl)) (er_cons (vr_same (by kernel_rfl) (by kernel_rfl)) (er_nil)))) (br_nil)) (OK_wEqSortKeyS_L0 p0 p1 0 _ h)
  · intro F_wEqSortKeyS_L0 F_wEqSortKey OK_wEqSortKeyS_L0 OK_wEqSortKey p0 p1 x5 r h
    delta acwEqSortKeyS_L0
    refine loop_unroll ?_
    refine seq_in ?_
    refine seq_in ?_
    refine ops_in ?_
    refine sts_ok 2 (s' := ⟨(12, (.d (.sl 11 (p0.map cGSortKey)))) :: (11, (.d (.i .i64 x5))) :: (stwEqSortKeyS_L0 p0 p1 x5).env, (stwEqSortKeyS_L0 p0 p1 x5).bx⟩) (by kernel_rfl) ?_
    refine p_step (v' := (.d (.i .i64 (p0.length : Int)))) rfl rfl (vop_len (sz := 11) (l := p0) (f := cGSortKey) (by kernel_rfl) (by kernel_rfl)) ?_
    refine sts_ok 1 (s' := ⟨(14, (.d (.b (decide (x5 < (p0.length : Int)))))) :: (13, (.d (.i .i64 (p0.length : Int)))) :: (12, (.d (.sl 11 (p0.map cGSortKey)))) :: (11, (.d (.i .i64 x5))) :: (stwEqSortKeyS_L0 p0 p1 x5).env, (stwEqSortKeyS_L0 p0 p1 x5).bx⟩) (by kernel_rfl) ?_
    refine nil_in ?_
    refine next_in ?_
    refine cond_step h (by kernel_rfl) ?_ ?_
    · clear h; intro h
      refine skip_in ?_
      refine next_in ?_
      refine seq_in ?_
      refine block_in ?_
      refine seq_in ?_
      refine dops_in ?_
      refine dsts_ok 2 (s' := ⟨(18, (.d (.i .i64 x5))) :: (17, (.d (.sl 11 (p0.map cGSortKey)))) :: (14, (.d (.b (decide (x5 < (p0.length : Int)))))) :: (13, (.d (.i .i64 (p0.length : Int)))) :: (12, (.d (.sl 11 (p0.map cGSortKey)))) :: (11, (.d (.i .i64 x5))) :: (stwEqSortKeyS_L0 p0 p1 x5).env, (stwEqSortKeyS_L0 p0 p1 x5).bx⟩) (by kernel_rfl) ?_
      refine dv_step (m := idx p0 x5) (v' := fun y => (.rp [(.i .i64 y.expr.kind), (.i .i64 y.expr.op), (.b y.expr.not_), (.i .i64 y.expr.value.kind), (.i .i64 y.expr.value.num), (.s (bs y.expr.value.text)), (.s (bs y.expr.qual)), (.s (bs y.expr.name)), (.sl 10 (y.expr.kids.map cGExpr)), (.sl 6 (y.expr.sub.map cGQuery)), (.b y.desc)])) h rfl rfl (fun y hy => vop_ia (l := p0) (f := cGSortKey) (g := oGSortKey) (k := .i64) hy cGSortKey_eq (by kernel_rfl) (by kernel_rfl) (by kernel_rfl)) ?_
      clear h; intro y1 h
      refine dsts_ok 3 (s' := ⟨(22, (.d (.i .i64 x5))) :: (21, (.d (.sl 11 (p1.map cGSortKey)))) :: (20, (vGSortKey y1)) :: (19, (.rp [(.i .i64 y1.expr.kind), (.i .i64 y1.expr.op), (.b y1.expr.not_), (.i .i64 y1.expr.value.kind), (.i .i64 y1.expr.value.num), (.s (bs y1.expr.value.text)), (.s (bs y1.expr.qual)), (.s (bs y1.expr.name)), (.sl 10 (y1.expr.kids.map cGExpr)), (.sl 6 (y1.expr.sub.map cGQuery)), (.b y1.desc)])) :: (18, (.d (.i .i64 x5))) :: (17, (.d (.sl 11 (p0.map cGSortKey)))) :: (14, (.d (.b (decide (x5 < (p0.length : Int)))))) :: (13, (.d (.i .i64 (p0.length : Int)))) :: (12, (.d (.sl 11 (p0.map cGSortKey)))) :: (11, (.d (.i .i64 x5))) :: (stwEqSortKeyS_L0 p0 p1 x5).env, (stwEqSortKeyS_L0 p0 p1 x5).bx⟩) (by kernel_rfl) ?_
      refine dv_step (m := idx p1 x5) (v' := fun y => (.rp [(.i .i64 y.expr.kind), (.i .i64 y.expr.op), (.b y.expr.not_), (.i .i64 y.expr.value.kind), (.i .i64 y.expr.value.num), (.s (bs y.expr.value.text)), (.s (bs y.expr.qual)), (.s (bs y.expr.name)), (.sl 10 (y.expr.kids.map cGExpr)), (.sl 6 (y.expr.sub.map cGQuery)), (.b y.desc)])) h rfl rfl (fun y hy => vop_ia (l := p1) (f := cGSortKey) (g := oGSortKey) (k := .i64) hy cGSortKey_eq (by kernel_rfl) (by kernel_rfl) (by kernel_rfl)) ?_
      clear h; intro y2 h
      refine dsts_ok 1 (s' := ⟨(24, (vGSortKey y2)) :: (23, (.rp [(.i .i64 y2.expr.kind), (.i .i64 y2.expr.op), (.b y2.expr.not_), (.i .i64 y2.expr.value.kind), (.i .i64 y2.expr.value.num), (.s (bs y2.expr.value.text)), (.s (bs y2.expr.qual)), (.s (bs y2.expr.name)), (.sl 10 (y2.expr.kids.map cGExpr)), (.sl 6 (y2.expr.sub.map cGQuery)), (.b y2.desc)])) :: (22, (.d (.i .i64 x5))) :: (21, (.d (.sl 11 (p1.map cGSortKey)))) :: (20, (vGSortKey y1)) :: (19, (.rp [(.i .i64 y1.expr.kind), (.i .i64 y1.expr.op), (.b y1.expr.not_), (.i .i64 y1.expr.value.kind), (.i .i64 y1.expr.value.num), (.s (bs y1.expr.value.text)), (.s (bs y1.expr.qual)), (.s (bs y1.expr.name)), (.sl 10 (y1.expr.kids.map cGExpr)), (.sl 6 (y1.expr.sub.map cGQuery)), (.b y1.desc)])) :: (18, (.d (.i .i64 x5))) :: (17, (.d (.sl 11 (p0.map cGSortKey)))) :: (14, (.d (.b (decide (x5 < (p0.length : Int)))))) :: (13, (.d (.i .i64 (p0.length : Int)))) :: (12, (.d (.sl 11 (p0.map cGSortKey)))) :: (11, (.d (.i .i64 x5))) :: (stwEqSortKeyS_L0 p0 p1 x5).env, (stwEqSortKeyS_L0 p0 p1 x5).bx⟩) (by kernel_rfl) ?_
      refine dcall_step (m := F_wEqSortKey y1 y2) (args := [(vGSortKey y1), (vGSortKey y2)]) (v' := (fun y => (.d (.b y)))) h (OK_wEqSortKey y1 y2) (by kernel_rfl) (by kernel_rfl) (fun _ => rfl) ?_
      clear h; intro y3 h
      refine dsts_ok 1 (s' := ⟨(26, (.d (.b (!y3)))) :: (25, (.d (.b y3))) :: (24, (vGSortKey y2)) :: (23, (.rp [(.i .i64 y2.expr.kind), (.i .i64 y2.expr.op), (.b y2.expr.not_), (.i .i64 y2.expr.value.kind), (.i .i64 y2.expr.value.num), (.s (bs y2.expr.value.text)), (.s (bs y2.expr.qual)), (.s (bs y2.expr.name)), (.sl 10 (y2.expr.kids.map cGExpr)), (.sl 6 (y2.expr.sub.map cGQuery)), (.b y2.desc)])) :: (22, (.d (.i .i64 x5))) :: (21, (.d (.sl 11 (p1.map cGSortKey)))) :: (20, (vGSortKey y1)) :: (19, (.rp [(.i .i64 y1.expr.kind), (.i .i64 y1.expr.op), (.b y1.expr.not_), (.i .i64 y1.expr.value.kind), (.i .i64 y1.expr.value.num), (.s (bs y1.expr.value.text)), (.s (bs y1.expr.qual)), (.s (bs y1.expr.name)), (.sl 10 (y1.expr.kids.map cGExpr)), (.sl 6 (y1.expr.sub.map cGQuery)), (.b y1.desc)])) :: (18, (.d (.i .i64 x5))) :: (17, (.d (.sl 11 (p0.map cGSortKey)))) :: (14, (.d (.b (decide (x5 < (p0.length : Int)))))) :: (13, (.d (.i .i64 (p0.length : Int)))) :: (12, (.d (.sl 11 (p0.map cGSortKey)))) :: (11, (.d (.i .i64 x5))) :: (stwEqSortKeyS_L0 p0 p1 x5).env, (stwEqSortKeyS_L0 p0 p1 x5).bx⟩) (by kernel_rfl) ?_
      refine dnil_in (by kernel_rfl) (by kernel_rfl) ?_
      refine next_in ?_
      refine cond_step h (by kernel_rfl) ?_ ?_
      · clear h; intro h
        refine seq_in ?_
        refine ops_in ?_
        refine sts_ok 1 (s' := ⟨(4, (.d (.b false))) :: (26, (.d (.b (!y3)))) :: (25, (.d (.b y3))) :: (24, (vGSortKey y2)) :: (23, (.rp [(.i .i64 y2.expr.kind), (.i .i64 y2.expr.op), (.b y2.expr.not_), (.i .i64 y2.expr.value.kind), (.i .i64 y2.expr.value.num), (.s (bs y2.expr.value.text)), (.s (bs y2.expr.qual)), (.s (bs y2.expr.name)), (.sl 10 (y2.expr.kids.map cGExpr)), (.sl 6 (y2.expr.sub.map cGQuery)), (.b y2.desc)])) :: (22, (.d (.i .i64 x5))) :: (21, (.d (.sl 11 (p1.map cGSortKey)))) :: (20, (vGSortKey y1)) :: (19, (.rp [(.i .i64 y1.expr.kind), (.i .i64 y1.expr.op), (.b y1.expr.not_), (.i .i64 y1.expr.value.kind), (.i .i64 y1.expr.value.num), (.s (bs y1.expr.value.text)), (.s (bs y1.expr.qual)), (.s (bs y1.expr.name)), (.sl 10 (y1.expr.kids.map cGExpr)), (.sl 6 (y1.expr.sub.map cGQuery)), (.b y1.desc)])) :: (18, (.d (.i .i64 x5))) :: (17, (.d (.sl 11 (p0.map cGSortKey)))) :: (14, (.d (.b (decide (x5 < (p0.length : Int)))))) :: (13, (.d (.i .i64 (p0.length : Int)))) :: (12, (.d (.sl 11 (p0.map cGSortKey)))) :: (11, (.d (.i .i64 x5))) :: (stwEqSortKeyS_L0 p0 p1 x5).env, (stwEqSortKeyS_L0 p0 p1 x5).bx⟩) (by kernel_rfl) ?_
        refine nil_in ?_
        refine next_in ?_
        refine ret_in ?_
        refine blockK_ret ?_
        refine thenK_ret ?_
        refine thenK_ret ?_
        refine blockK_ret ?_
        refine thenK_ret ?_
        have h := Option.some.inj h; subst h
        exact ret1_step (v := (.d (.b false))) (by kernel_rfl) (by kernel_rfl) (by kernel_rfl)
      · clear h; intro h
        refine skip_in ?_
        refine blockK_norm ?_
        refine next_in ?_
        refine ops_in ?_
        refine sts_ok 3 (s' := ⟨(5, (.d (.i .i64 (IntKind.wrap .i64 (x5 + 1))))) :: (16, (.d (.i .i64 (IntKind.wrap .i64 (x5 + 1))))) :: (15, (.d (.i .i64 x5))) :: (26, (.d (.b (!y3)))) :: (25, (.d (.b y3))) :: (24, (vGSortKey y2)) :: (23, (.rp [(.i .i64 y2.expr.kind), (.i .i64 y2.expr.op), (.b y2.expr.not_), (.i .i64 y2.expr.value.kind), (.i .i64 y2.expr.value.num), (.s (bs y2.expr.value.text)), (.s (bs y2.expr.qual)), (.s (bs y2.expr.name)), (.sl 10 (y2.expr.kids.map cGExpr)), (.sl 6 (y2.expr.sub.map cGQuery)), (.b y2.desc)])) :: (22, (.d (.i .i64 x5))) :: (21, (.d (.sl 11 (p1.map cGSortKey)))) :: (20, (vGSortKey y1)) :: (19, (.rp [(.i .i64 y1.expr.kind), (.i .i64 y1.expr.op), (.b y1.expr.not_), (.i .i64 y1.expr.value.kind), (.i .i64 y1.expr.value.num), (.s (bs y1.expr.value.text)), (.s (bs y1.expr.qual)), (.s (bs y1.expr.name)), (.sl 10 (y1.expr.kids.map cGExpr)), (.sl 6 (y1.expr.sub.map cGQuery)), (.b y1.desc)])) :: (18, (.d (.i .i64 x5))) :: (17, (.d (.sl 11 (p0.map cGSortKey)))) :: (14, (.d (.b (decide (x5 < (p0.length : Int)))))) :: (13, (.d (.i .i64 (p0.length : Int)))) :: (12, (.d (.sl 11 (p0.map cGSortKey)))) :: (11, (.d (.i .i64 x5))) :: (stwEqSortKeyS_L0 p0 p1 x5).env, (stwEqSortKeyS_L0 p0 p1 x5).bx⟩) (by kernel_rfl) ?_
        refine nil_in ?_
        exact loop_back (s' := stwEqSortKeyS_L0 p0 p1 (IntKind.wrap .i64 (x5 + 1))) (wk_ren [] (by kernel_rfl) (er_cons (vr_same (by kernel_rfl) (by kernel_rfl)) (er_cons (vr_same (by kernel_rfl) (by kernel_rfl)) (er_cons (vr_same (by kernel_rfl) (by kernel_rfl)) (er_nil)))) (br_nil)) (OK_wEqSortKeyS_L0 p0 p1 (IntKind.wrap .i64 (x5 + 1)) _ h)
    · clear h; intro h
      refine exit_in ?_
      refine thenK_exit ?_
      refine thenK_exit ?_
      refine blockK_here ?_
      refine next_in ?_
      refine seq_in ?_
      refine ops_in ?_
      refine sts_ok 1 (s' := ⟨(4, (.d (.b true))) :: (14, (.d (.b (decide (x5 < (p0.length : Int)))))) :: (13, (.d (.i .i64 (p0.length : Int)))) :: (12, (.d (.sl 11 (p0.map cGSortKey)))) :: (11, (.d (.i .i64 x5))) :: (stwEqSortKeyS_L0 p0 p1 x5).env, (stwEqSortKeyS_L0 p0 p1 x5).bx⟩) (by kernel_rfl) ?_
      refine nil_in ?_
      refine next_in ?_
      refine ret_in ?_
      have h := Option.some.inj h; subst h
      exact ret1_step (v := (.d (.b true))) (by kernel_rfl) (by kernel_rfl) (by kernel_rfl)
  · intro F_wEqExpr OK_wEqExpr p0 p1 r h
    refine acalls_of_fn trwEqSortKey (Nat.le_of_ble_eq_true rfl) (by simp) ?_
    show avc Try.prog acwEqSortKey (qwEqSortKey _) ⟨[(0, (vGSortKey p0)), (1, (vGSortKey p1))], []⟩
    delta acwEqSortKey
    refine seq_in ?_
    refine ops_in ?_
    refine sts_ok 3 (s' := ⟨[(4, (.d (.b false))), (3, (.ptr 3 0)), (2, (.ptr 2 0)), (0, (vGSortKey p0)), (1, (vGSortKey p1))], [(3, [(.d (.i .i64 p1.expr.kind)), (.d (.i .i64 p1.expr.op)), (.d (.b p1.expr.not_)), (.d (.i .i64 p1.expr.value.kind)), (.d (.i .i64 p1.expr.value.num)), (.d (.s (bs p1.expr.value.text))), (.d (.s (bs p1.expr.qual))), (.d (.s (bs p1.expr.name))), (.d (.sl 10 (p1.expr.kids.map cGExpr))), (.d (.sl 6 (p1.expr.sub.map cGQuery))), (.d (.b p1.desc))]), (2, [(.d (.i .i64 p0.expr.kind)), (.d (.i .i64 p0.expr.op)), (.d (.b p0.expr.not_)), (.d (.i .i64 p0.expr.value.kind)), (.d (.i .i64 p0.expr.value.num)), (.d (.s (bs p0.expr.value.text))), (.d (.s (bs p0.expr.qual))), (.d (.s (bs p0.expr.name))), (.d (.sl 10 (p0.expr.kids.map cGExpr))), (.d (.sl 6 (p0.expr.sub.map cGQuery))), (.d (.b p0.desc))])]⟩) (by kernel_rfl) ?_
    refine nil_in ?_
    refine next_in ?_
    refine seq_in ?_
    refine seq_in ?_
    refine ops_in ?_
    refine sts_ok 4 (s' := ⟨[(8, (vGExpr p1.expr)), (7, (.ptr 3 0)), (6, (vGExpr p0.expr)), (5, (.ptr 2 0)), (4, (.d (.b false))), (3, (.ptr 3 0)), (2, (.ptr 2 0)), (0, (vGSortKey p0)), (1, (vGSortKey p1))], [(3, [(.d (.i .i64 p1.expr.kind)), (.d (.i .i64 p1.expr.op)), (.d (.b p1.expr.not_)), (.d (.i .i64 p1.expr.value.kind)), (.d (.i .i64 p1.expr.value.num)), (.d (.s (bs p1.expr.value.text))), (.d (.s (bs p1.expr.qual))), (.d (.s (bs p1.expr.name))), (.d (.sl 10 (p1.expr.kids.map cGExpr))), (.d (.sl 6 (p1.expr.sub.map cGQuery))), (.d (.b p1.desc))]), (2, [(.d (.i .i64 p0.expr.kind)), (.d (.i .i64 p0.expr.op)), (.d (.b p0.expr.not_)), (.d (.i .i64 p0.expr.value.kind)), (.d (.i .i64 p0.expr.value.num)), (.d (.s (bs p0.expr.value.text))), (.d (.s (bs p0.expr.qual))), (.d (.s (bs p0.expr.name))), (.d (.sl 10 (p0.expr.kids.map cGExpr))), (.d (.sl 6 (p0.expr.sub.map cGQuery))), (.d (.b p0.desc))])]⟩) (by kernel_rfl) ?_
    refine call_step (m := F_wEqExpr p0.expr p1.expr) (args := [(vGExpr p0.expr), (vGExpr p1.expr)]) (v' := (fun y => (.d (.b y)))) h (OK_wEqExpr p0.expr p1.expr) (by kernel_rfl) (by kernel_rfl) (fun _ => rfl) ?_
    clear h; intro y1 h
    refine sts_ok 1 (s' := ⟨[(10, (.d (.b (!y1)))), (9, (.d (.b y1))), (8, (vGExpr p1.expr)), (7, (.ptr 3 0)), (6, (vGExpr p0.expr)), (5, (.ptr 2 0)), (4, (.d (.b false))), (3, (.ptr 3 0)), (2, (.ptr 2 0)), (0, (vGSortKey p0)), (1, (vGSortKey p1))], [(3, [(.d (.i .i64 p1.expr.kind)), (.d (.i .i64 p1.expr.op)), (.d (.b p1.expr.not_)), (.d (.i .i64 p1.expr.value.kind)), (.d (.i .i64 p1.expr.value.num)), (.d (.s (bs p1.expr.value.text))), (.d (.s (bs p1.expr.qual))), (.d (.s (bs p1.expr.name))), (.d (.sl 10 (p1.expr.kids.map cGExpr))), (.d (.sl 6 (p1.expr.sub.map cGQuery))), (.d (.b p1.desc))]), (2, [(.d (.i .i64 p0.expr.kind)), (.d (.i .i64 p0.expr.op)), (.d (.b p0.expr.not_)), (.d (.i .i64 p0.expr.value.kind)), (.d (.i .i64 p0.expr.value.num)), (.d (.s (bs p0.expr.value.text))), (.d (.s (bs p0.expr.qual))), (.d (.s (bs p0.expr.name))), (.d (.sl 10 (p0.expr.kids.map cGExpr))), (.d (.sl 6 (p0.expr.sub.map cGQuery))), (.d (.b p0.desc))])]⟩) (by kernel_rfl) ?_
    refine nil_in ?_
    refine next_in ?_
    refine cond_step h (by kernel_rfl) ?_ ?_
    · clear h; intro h
      refine seq_in ?_
      refine ops_in ?_
      refine sts_ok 1 (s' := ⟨[(4, (.d (.b false))), (10, (.d (.b (!y1)))), (9, (.d (.b y1))), (8, (vGExpr p1.expr)), (7, (.ptr 3 0)), (6, (vGExpr p0.expr)), (5, (.ptr 2 0)), (4, (.d (.b false))), (3, (.ptr 3 0)), (2, (.ptr 2 0)), (0, (vGSortKey p0)), (1, (vGSortKey p1))], [(3, [(.d (.i .i64 p1.expr.kind)), (.d (.i .i64 p1.expr.op)), (.d (.b p1.expr.not_)), (.d (.i .i64 p1.expr.value.kind)), (.d (.i .i64 p1.expr.value.num)), (.d (.s (bs p1.expr.value.text))), (.d (.s (bs p1.expr.qual))), (.d (.s (bs p1.expr.name))), (.d (.sl 10 (p1.expr.kids.map cGExpr))), (.d (.sl 6 (p1.expr.sub.map cGQuery))), (.d (.b p1.desc))]), (2, [(.d (.i .i64 p0.expr.kind)), (.d (.i .i64 p0.expr.op)), (.d (.b p0.expr.not_)), (.d (.i .i64 p0.expr.value.kind)), (.d (.i .i64 p0.expr.value.num)), (.d (.s (bs p0.expr.value.text))), (.d (.s (bs p0.expr.qual))), (.d (.s (bs p0.expr.name))), (.d (.sl 10 (p0.expr.kids.map cGExpr))), (.d (.sl 6 (p0.expr.sub.map cGQuery))), (.d (.b p0.desc))])]⟩) (by kernel_rfl) ?_
      refine nil_in ?_
      refine next_in ?_
      refine ret_in ?_
      refine thenK_ret ?_
      have h := Option.some.inj h; subst h
      exact ret1_step (v := (.d (.b false))) (by kernel_rfl) (by kernel_rfl) (by kernel_rfl)
    · clear h; intro h
      refine skip_in ?_
      refine next_in ?_
      refine seq_in ?_
      refine seq_in ?_
      refine ops_in ?_
      refine sts_ok 5 (s' := ⟨[(15, (.d (.b (!(p0.desc == p1.desc))))), (14, (.d (.b p1.desc))), (13, (.ptr 3 10)), (12, (.d (.b p0.desc))), (11, (.ptr 2 10)), (10, (.d (.b (!y1)))), (9, (.d (.b y1))), (8, (vGExpr p1.expr)), (7, (.ptr 3 0)), (6, (vGExpr p0.expr)), (5, (.ptr 2 0)), (4, (.d (.b false))), (3, (.ptr 3 0)), (2, (.ptr 2 0)), (0, (vGSortKey p0)), (1, (vGSortKey p1))], [(3, [(.d (.i .i64 p1.expr.kind)), (.d (.i .i64 p1.expr.op)), (.d (.b p1.expr.not_)), (.d (.i .i64 p1.expr.value.kind)), (.d (.i .i64 p1.expr.value.num)), (.d (.s (bs p1.expr.value.text))), (.d (.s (bs p1.expr.qual))), (.d (.s (bs p1.expr.name))), (.d (.sl 10 (p1.expr.kids.map cGExpr))), (.d (.sl 6 (p1.expr.sub.map cGQuery))), (.d (.b p1.desc))]), (2, [(.d (.i .i64 p0.expr.kind)), (.d (.i .i64 p0.expr.op)), (.d (.b p0.expr.not_)), (.d (.i .i64 p0.expr.value.kind)), (.d (.i .i64 p0.expr.value.num)), (.d (.s (bs p0.expr.value.text))), (.d (.s (bs p0.expr.qual))), (.d (.s (bs p0.expr.name))), (.d (.sl 10 (p0.expr.kids.map cGExpr))), (.d (.sl 6 (p0.expr.sub.map cGQuery))), (.d (.b p0.desc))])]⟩) (by kernel_rfl) ?_
      refine nil_in ?_
      refine next_in ?_
      refine cond_step h (by kernel_rfl) ?_ ?_
      · clear h; intro h
        refine seq_in ?_
        refine ops_in ?_
        refine sts_ok 1 (s' := ⟨[(4, (.d (.b false))), (15, (.d (.b (!(p0.desc == p1.desc))))), (14, (.d (.b p1.desc))), (13, (.ptr 3 10)), (12, (.d (.b p0.desc))), (11, (.ptr 2 10)), (10, (.d (.b (!y1)))), (9, (.d (.b y1))), (8, (vGExpr p1.expr)), (7, (.ptr 3 0)), (6, (vGExpr p0.expr)), (5, (.ptr 2 0)), (4, (.d (.b false))), (3, (.ptr 3 0)), (2, (.ptr 2 0)), (0, (vGSortKey p0)), (1, (vGSortKey p1))], [(3, [(.d (.i .i64 p1.expr.kind)), (.d (.i .i64 p1.expr.op)), (.d (.b p1.expr.not_)), (.d (.i .i64 p1.expr.value.kind)), (.d (.i .i64 p1.expr.value.num)), (.d (.s (bs p1.expr.value.text))), (.d (.s (bs p1.expr.qual))), (.d (.s (bs p1.expr.name))), (.d (.sl 10 (p1.expr.kids.map cGExpr))), (.d (.sl 6 (p1.expr.sub.map cGQuery))), (.d (.b p1.desc))]), (2, [(.d (.i .i64 p0.expr.kind)), (.d (.i .i64 p0.expr.op)), (.d (.b p0.expr.not_)), (.d (.i .i64 p0.expr.value.kind)), (.d (.i .i64 p0.expr.value.num)), (.d (.s (bs p0.expr.value.text))), (.d (.s (bs p0.expr.qual))), (.d (.s (bs p0.expr.name))), (.d (.sl 10 (p0.expr.kids.map cGExpr))), (.d (.sl 6 (p0.expr.sub.map cGQuery))), (.d (.b p0.desc))])]⟩) (by kernel_rfl) ?_
        refine nil_in ?_
        refine next_in ?_
        refine ret_in ?_
        refine thenK_ret ?_
        have h := Option.some.inj h; subst h
        exact ret1_step (v := (.d (.b false))) (by kernel_rfl) (by kernel_rfl) (by kernel_rfl)
      · clear h; intro h
        refine skip_in ?_
        refine next_in ?_
        refine seq_in ?_
        refine ops_in ?_
        refine sts_ok 1 (s' := ⟨[(4, (.d (.b true))), (15, (.d (.b (!(p0.desc == p1.desc))))), (14, (.d (.b p1.desc))), (13, (.ptr 3 10)), (12, (.d (.b p0.desc))), (11, (.ptr 2 10)), (10, (.d (.b (!y1)))), (9, (.d (.b y1))), (8, (vGExpr p1.expr)), (7, (.ptr 3 0)), (6, (vGExpr p0.expr)), (5, (.ptr 2 0)), (4, (.d (.b false))), (3, (.ptr 3 0)), (2, (.ptr 2 0)), (0, (vGSortKey p0)), (1, (vGSortKey p1))], [(3, [(.d (.i .i64 p1.expr.kind)), (.d (.i .i64 p1.expr.op)), (.d (.b p1.expr.not_)), (.d (.i .i64 p1.expr.value.kind)), (.d (.i .i64 p1.expr.value.num)), (.d (.s (bs p1.expr.value.text))), (.d (.s (bs p1.expr.qual))), (.d (.s (bs p1.expr.name))), (.d (.sl 10 (p1.expr.kids.map cGExpr))), (.d (.sl 6 (p1.expr.sub.map cGQuery))), (.d (.b p1.desc))]), (2, [(.d (.i .i64 p0.expr.kind)), (.d (.i .i64 p0.expr.op)), (.d (.b p0.expr.not_)), (.d (.i .i64 p0.expr.value.kind)), (.d (.i .i64 p0.expr.value.num)), (.d (.s (bs p0.expr.value.text))), (.d (.s (bs p0.expr.qual))), (.d (.s (bs p0.expr.name))), (.d (.sl 10 (p0.expr.kids.map cGExpr))), (.d (.sl 6 (p0.expr.sub.map cGQuery))), (.d (.b p0.desc))])]⟩) (by kernel_rfl) ?_
        refine nil_in ?_
        refine next_in ?_
        refine ret_in ?_
        have h := Option.some.inj h; subst h
        exact ret1_step (v := (.d (.b true))) (by kernel_rfl) (by kernel_rfl) (by kernel_rfl)
  · intro F_wEqSourceS_L0 OK_wEqSourceS_L0 p0 p1 r h
    refine acalls_of_fn trwEqSourceS (Nat.le_of_ble_eq_true rfl) (by simp) ?_
    show avc Try.prog acwEqSourceS (qwEqSourceS _) ⟨[(0, (.d (.sl 3 (p0.map cGSource)))), (1, (.d (.sl 3 (p1.map cGSource))))], []⟩
    delta acwEqSourceS
    refine seq_in ?_
    refine ops_in ?_
    refine sts_ok 1 (s' := ⟨[(4, (.d (.b false))), (0, (.d (.sl 3 (p0.map cGSource)))), (1, (.d (.sl 3 (p1.map cGSource))))], []⟩) (by kernel_rfl) ?_
    refine nil_in ?_
    refine next_in ?_
    refine seq_in ?_
    refine seq_in ?_
    refine ops_in ?_
    refine sts_ok 1 (s' := ⟨[(6, (.d (.sl 3 (p0.map cGSource)))), (4, (.d (.b false))), (0, (.d (.sl 3 (p0.map cGSource)))), (1, (.d (.sl 3 (p1.map cGSource))))], []⟩) (by kernel_rfl) ?_
    refine p_step (v' := (.d (.i .i64 (p0.length : Int)))) rfl rfl (vop_len (sz := 3) (l := p0) (f := cGSource) (by kernel_rfl) (by kernel_rfl)) ?_
    refine sts_ok 1 (s' := ⟨[(8, (.d (.sl 3 (p1.map cGSource)))), (7, (.d (.i .i64 (p0.length : Int)))), (6, (.d (.sl 3 (p0.map cGSource)))), (4, (.d (.b false))), (0, (.d (.sl 3 (p0.map cGSource)))), (1, (.d (.sl 3 (p1.map cGSource))))], []⟩) (by kernel_rfl) ?_
    refine p_step (v' := (.d (.i .i64 (p1.length : Int)))) rfl rfl (vop_len (sz := 3) (l := p1) (f := cGSource) (by kernel_rfl) (by kernel_rfl)) ?_
    refine sts_ok 1 (s' := ⟨[(10, (.d (.b (!decide ((p0.length : Int) = (p1.length : Int)))))), (9, (.d (.i .i64 (p1.length : Int)))), (8, (.d (.sl 3 (p1.map cGSource)))), (7, (.d (.i .i64 (p0.length : Int)))), (6, (.d (.sl 3 (p0.map cGSource)))), (4, (.d (.b false))), (0, (.d (.sl 3 (p0.map cGSource)))), (1, (.d (.sl 3 (p1.map cGSource))))], []⟩) (by kernel_rfl) ?_
    refine nil_in ?_
    refine next_in ?_
    refine cond_step h (by kernel_rfl) ?_ ?_
    · clear h; intro h
      refine seq_in ?_
      refine ops_in ?_
      refine sts_ok 1 (s' := ⟨[(4, (.d (.b false))), (10, (.d (.b (!decide ((p0.length : Int) = (p1.length : Int)))))), (9, (.d (.i .i64 (p1.length : Int)))), (8, (.d (.sl 3 (p1.map cGSource)))), (7, (.d (.i .i64 (p0.length : Int)))), (6, (.d (.sl 3 (p0.map cGSource)))), (4, (.d (.b false))), (0, (.d (.sl 3 (p0.map cGSource)))), (1, (.d (.sl 3 (p1.map cGSource))))], []⟩) (by kernel_rfl) ?_
      refine nil_in ?_
      refine next_in ?_
      refine ret_in ?_
      refine thenK_ret ?_
      have h := Option.some.inj h; subst h
      exact ret1_step (v := (.d (.b false))) (by kernel_rfl) (by kernel_rfl) (by kernel_rfl)
    · clear h; intro h
      refine skip_in ?_
      refine next_in ?_
      refine seq_in ?_
      refine seq_in ?_
      refine ops_in ?_
      refine sts_ok 1 (s' := ⟨[(5, (.d (.i .i64 0))), (10, (.d (.b (!decide ((p0.length : Int) = (p1.length : Int)))))), (9, (.d (.i .i64 (p1.length : Int)))), (8, (.d (.sl 3 (p1.map cGSource)))), (7, (.d (.i .i64 (p0.length : Int)))), (6, (.d (.sl 3 (p0.map cGSource)))), (4, (.d (.b false))), (0, (.d (.sl 3 (p0.map cGSource)))), (1, (.d (.sl 3 (p1.map cGSource))))], []⟩) (by kernel_rfl) ?_
      refine nil_in ?_
      refine next_in ?_
      refine block_in ?_
      exact loop_go (s' := stwEqSourceS_L0 p0 p1 0) (wk_ren [] (by kernel_rfl) (er_cons (vr_same (by kernel_rfl) (by kernel_rfl)) (er_cons (vr_same (by kernel_rfl) (by kernel_rfl)) (er_cons (vr_same (by kernel_rfl) (by kernel_rfl)) (er_nil)))) (br_nil)) (OK_wEqSourceS_L0 p0 p1 0 _ h)
  · intro F_wEqSource F_wEqSourceS_L0 OK_wEqSource OK_wEqSourceS_L0 p0 p1 x5 r h
    delta acwEqSourceS_L0
    refine loop_unroll ?_
    refine seq_in ?_
    refine seq_in ?_
    refine ops_in ?_
    refine sts_ok 2 (s' := ⟨(12, (.d (.sl 3 (p0.map cGSource)))) :: (11, (.d (.i .i64 x5))) :: (stwEqSourceS_L0 p0 p1 x5).env, (stwEqSourceS_L0 p0 p1 x5).bx⟩) (by kernel_rfl) ?_
    refine p_step (v' := (.d (.i .i64 (p0.length : Int)))) rfl rfl (vop_len (sz := 3) (l := p0) (f := cGSource) (by kernel_rfl) (by kernel_rfl)) ?_
    refine sts_ok 1 (s' := ⟨(14, (.d (.b (decide (x5 < (p0.length : Int)))))) :: (13, (.d (.i .i64 (p0.length : Int)))) :: (12, (.d (.sl 3 (p0.map cGSource)))) :: (11, (.d (.i .i64 x5))) :: (stwEqSourceS_L0 p0 p1 x5).env, (stwEqSourceS_L0 p0 p1 x5).bx⟩) (by kernel_rfl) ?_
    refine nil_in ?_
    refine next_in ?_
    refine cond_step h (by kernel_rfl) ?_ ?_
    · clear h; intro h
      refine skip_in ?_
      refine next_in ?_
      refine seq_in ?_
      refine block_in ?_
      refine seq_in ?_
      refine dops_in ?_
      refine dsts_ok 2 (s' := ⟨(18, (.d (.i .i64 x5))) :: (17, (.d (.sl 3 (p0.map cGSource)))) :: (14, (.d (.b (decide (x5 < (p0.length : Int)))))) :: (13, (.d (.i .i64 (p0.length : Int)))) :: (12, (.d (.sl 3 (p0.map cGSource)))) :: (11, (.d (.i .i64 x5))) :: (stwEqSourceS_L0 p0 p1 x5).env, (stwEqSourceS_L0 p0 p1 x5).bx⟩) (by kernel_rfl) ?_
      refine dv_step (m := idx p0 x5) (v' := fun y => (.rp [(.s (bs y.table)), (.s (bs y.as_)), (.sl 10 (y.on_.map cGExpr))])) h rfl rfl (fun y hy => vop_ia (l := p0) (f := cGSource) (g := oGSource) (k := .i64) hy cGSource_eq (by kernel_rfl) (by kernel_rfl) (by kernel_rfl)) ?_
      clear h; intro y1 h
      refine dsts_ok 3 (s' := ⟨(22, (.d (.i .i64 x5))) :: (21, (.d (.sl 3 (p1.map cGSource)))) :: (20, (vGSource y1)) :: (19, (.rp [(.s (bs y1.table)), (.s (bs y1.as_)), (.sl 10 (y1.on_.map cGExpr))])) :: (18, (.d (.i .i64 x5))) :: (17, (.d (.sl 3 (p0.map cGSource)))) :: (14, (.d (.b (decide (x5 < (p0.length : Int)))))) :: (13, (.d (.i .i64 (p0.length : Int)))) :: (12, (.d (.sl 3 (p0.map cGSource)))) :: (11, (.d (.i .i64 x5))) :: (stwEqSourceS_L0 p0 p1 x5).env, (stwEqSourceS_L0 p0 p1 x5).bx⟩) (by kernel_rfl) ?_
      refine dv_step (m := idx p1 x5) (v' := fun y => (.rp [(.s (bs y.table)), (.s (bs y.as_)), (.sl 10 (y.on_.map cGExpr))])) h rfl rfl (fun y hy => vop_ia (l := p1) (f := cGSource) (g := oGSource) (k := .i64) hy cGSource_eq (by kernel_rfl) (by kernel_rfl) (by kernel_rfl)) ?_
      clear h; intro y2 h
      refine dsts_ok 1 (s' := ⟨(24, (vGSource y2)) :: (23, (.rp [(.s (bs y2.table)), (.s (bs y2.as_)), (.sl 10 (y2.on_.map cGExpr))])) :: (22, (.d (.i .i64 x5))) :: (21, (.d (.sl 3 (p1.map cGSource)))) :: (20, (vGSource y1)) :: (19, (.rp [(.s (bs y1.table)), (.s (bs y1.as_)), (.sl 10 (y1.on_.map cGExpr))])) :: (18, (.d (.i .i64 x5))) :: (17, (.d (.sl 3 (p0.map cGSource)))) :: (14, (.d (.b (decide (x5 < (p0.length : Int)))))) :: (13, (.d (.i .i64 (p0.length : Int)))) :: (12, (.d (.sl 3 (p0.map cGSource)))) :: (11, (.d (.i .i64 x5))) :: (stwEqSourceS_L0 p0 p1 x5).env, (stwEqSourceS_L0 p0 p1 x5).bx⟩) (by kernel_rfl) ?_
      refine dcall_step (m := F_wEqSource y1 y2) (args := [(vGSource y1), (vGSource y2)]) (v' := (fun y => (.d (.b y)))) h (OK_wEqSource y1 y2) (by kernel_rfl) (by kernel_rfl) (fun _ => rfl) ?_
      clear h; intro y3 h
      refine dsts_ok 1 (s' := ⟨(26, (.d (.b (!y3)))) :: (25, (.d (.b y3))) :: (24, (vGSource y2)) :: (23, (.rp [(.s (bs y2.table)), (.s (bs y2.as_)), (.sl 10 (y2.on_.map cGExpr))])) :: (22, (.d (.i .i64 x5))) :: (21, (.d (.sl 3 (p1.map cGSource)))) :: (20, (vGSource y1)) :: (19, (.rp [(.s (bs y1.table)), (.s (bs y1.as_)), (.sl 10 (y1.on_.map cGExpr))])) :: (18, (.d (.i .i64 x5))) :: (17, (.d (.sl 3 (p0.map cGSource)))) :: (14, (.d (.b (decide (x5 < (p0.length : Int)))))) :: (13, (.d (.i .i64 (p0.length : Int)))) :: (12, (.d (.sl 3 (p0.map cGSource)))) :: (11, (.d (.i .i64 x5))) :: (stwEqSourceS_L0 p0 p1 x5).env, (stwEqSourceS_L0 p0 p1 x5).bx⟩) (by kernel_rfl) ?_
      refine dnil_in (by kernel_rfl) (by kernel_rfl) ?_
      refine next_in ?_
      refine cond_step h (by kernel_rfl) ?_ ?_
      · clear h; intro h
        refine seq_in ?_
        refine ops_in ?_
        refine sts_ok 1 (s' := ⟨(4, (.d (.b false))) :: (26, (.d (.b (!y3)))) :: (25, (.d (.b y3))) :: (24, (vGSource y2)) :: (23, (.rp [(.s (bs y2.table)), (.s (bs y2.as_)), (.sl 10 (y2.on_.map cGExpr))])) :: (22, (.d (.i .i64 x5))) :: (21, (.d (.sl 3 (p1.map cGSource)))) :: (20, (vGSource y1)) :: (19, (.rp [(.s (bs y1.table)), (.s (bs y1.as_)), (.sl 10 (y1.on_.map cGExpr))])) :: (18, (.d (.i .i64 x5))) :: (17, (.d (.sl 3 (p0.map cGSource)))) :: (14, (.d (.b (decide (x5 < (p0.length : Int)))))) :: (13, (.d (.i .i64 (p0.length : Int)))) :: (12, (.d (.sl 3 (p0.map cGSource)))) :: (11, (.d (.i .i64 x5))) :: (stwEqSourceS_L0 p0 p1 x5).env, (stwEqSourceS_L0 p0 p1 x5).bx⟩) (by kernel_rfl) ?_
        refine nil_in ?_
        refine next_in ?_
        refine ret_in ?_
        refine blockK_ret ?_
        refine thenK_ret ?_
        refine thenK_ret ?_
        refine blockK_ret ?_
        refine thenK_ret ?_
        have h := Option.some.inj h; subst h
        exact ret1_step (v := (.d (.b false))) (by kernel_rfl) (by kernel_rfl) (by kernel_rfl)
      · clear h; intro h
        refine skip_in ?_
        refine blockK_norm ?_
        refine next_in ?_
        refine ops_in ?_
        refine sts_ok 3 (s' := ⟨(5, (.d (.i .i64 (IntKind.wrap .i64 (x5 + 1))))) :: (16, (.d (.i .i64 (IntKind.wrap .i64 (x5 + 1))))) :: (15, (.d (.i .i64 x5))) :: (26, (.d (.b (!y3)))) :: (25, (.d (.b y3))) :: (24, (vGSource y2)) :: (23, (.rp [(.s (bs y2.table)), (.s (bs y2.as_)), (.sl 10 (y2.on_.map cGExpr))])) :: (22, (.d (.i .i64 x5))) :: (21, (.d (.sl 3 (p1.map cGSource)))) :: (20, (vGSource y1)) :: (19, (.rp [(.s (bs y1.table)), (.s (bs y1.as_)), (.sl 10 (y1.on_.map cGExpr))])) :: (18, (.d (.i .i64 x5))) :: (17, (.d (.sl 3 (p0.map cGSource)))) :: (14, (.d (.b (decide (x5 < (p0.length : Int)))))) :: (13, (.d (.i .i64 (p0.length : Int)))) :: (12, (.d (.sl 3 (p0.map cGSource)))) :: (11, (.d (.i .i64 x5))) :: (stwEqSourceS_L0 p0 p1 x5).env, (stwEqSourceS_L0 p0 p1 x5).bx⟩) (by kernel_rfl) ?_
        refine nil_in ?_
        exact loop_back (s' := stwEqSourceS_L0 p0 p1 (IntKind.wrap .i64 (x5 + 1))) (wk_ren [] (by kernel_rfl) (er_cons (vr_same (by kernel_rfl) (by kernel_rfl)) (er_cons (vr_same (by kernel_rfl) (by kernel_rfl)) (er_cons (vr_same (by kernel_rfl) (by kernel_rfl)) (er_nil)))) (br_nil)) (OK_wEqSourceS_L0 p0 p1 (IntKind.wrap .i64 (x5 + 1)) _ h)
    · clear h; intro h
      refine exit_in ?_
      refine thenK_exit ?_
      refine thenK_exit ?_
      refine blockK_here ?_
      refine next_in ?_
      refine seq_in ?_
      refine ops_in ?_
      refine sts_ok 1 (s' := ⟨(4, (.d (.b true))) :: (14, (.d (.b (decide (x5 < (p0.length : Int)))))) :: (13, (.d (.i .i64 (p0.length : Int)))) :: (12, (.d (.sl 3 (p0.map cGSource)))) :: (11, (.d (.i .i64 x5))) :: (stwEqSourceS_L0 p0 p1 x5).env, (stwEqSourceS_L0 p0 p1 x5).bx⟩) (by kernel_rfl) ?_
      refine nil_in ?_
      refine next_in ?_
      refine ret_in ?_
      have h := Option.some.inj h; subst h
      exact ret1_step (v := (.d (.b true))) (by kernel_rfl) (by kernel_rfl) (by kernel_rfl)
  · intro F_wEqItemS_L0 OK_wEqItemS_L0 p0 p1 r h
    refine acalls_of_fn trwEqItemS (Nat.le_of_ble_eq_true rfl) (by simp) ?_
    show avc Try.prog acwEqItemS (qwEqItemS _) ⟨[(0, (.d (.sl 13 (p0.map cGItem)))), (1, (.d (.sl 13 (p1.map cGItem))))], []⟩
    delta acwEqItemS
    refine seq_in ?_
    refine ops_in ?_
    refine sts_ok 1 (s' := ⟨[(4, (.d (.b false))), (0, (.d (.sl 13 (p0.map cGItem)))), (1, (.d (.sl 13 (p1.map cGItem))))], []⟩) (by kernel_rfl) ?_
    refine nil_in ?_
    refine next_in ?_
    refine seq_in ?_
    refine seq_in ?_
    refine ops_in ?_
    refine sts_ok 1 (s' := ⟨[(6, (.d (.sl 13 (p0.map cGItem)))), (4, (.d (.b false))), (0, (.d (.sl 13 (p0.map cGItem)))), (1, (.d (.sl 13 (p1.map cGItem))))], []⟩) (by kernel_rfl) ?_
    refine p_step (v' := (.d (.i .i64 (p0.length : Int)))) rfl rfl (vop_len (sz := 13) (l := p0) (f := cGItem) (by kernel_rfl) (by kernel_rfl)) ?_
    refine sts_ok 1 (s' := ⟨[(8, (.d (.sl 13 (p1.map cGItem)))), (7, (.d (.i .i64 (p0.length : Int)))), (6, (.d (.sl 13 (p0.map cGItem)))), (4, (.d (.b false))), (0, (.d (.sl 13 (p0.map cGItem)))), (1, (.d (.sl 13 (p1.map cGItem))))], []⟩) (by kernel_rfl) ?_
    refine p_step (v' := (.d (.i .i64 (p1.length : Int)))) rfl rfl (vop_len (sz := 13) (l := p1) (f := cGItem) (by kernel_rfl) (by kernel_rfl)) ?_
    refine sts_ok 1 (s' := ⟨[(10, (.d (.b (!decide ((p0.length : Int) = (p1.length : Int)))))), (9, (.d (.i .i64 (p1.length : Int)))), (8, (.d (.sl 13 (p1.map cGItem)))), (7, (.d (.i .i64 (p0.length : Int)))), (6, (.d (.sl 13 (p0.map cGItem)))), (4, (.d (.b false))), (0, (.d (.sl 13 (p0.map cGItem)))), (1, (.d (.sl 13 (p1.map cGItem))))], []⟩) (by kernel_rfl) ?_
    refine nil_in ?_
    refine next_in ?_
    refine cond_step h (by kernel_rfl) ?_ ?_
    · clear h; intro h
      refine seq_in ?_
      refine ops_in ?_
      refine sts_ok 1 (s' := ⟨[(4, (.d (.b false))), (10, (.d (.b (!decide ((p0.length : Int) = (p1.length : Int)))))), (9, (.d (.i .i64 (p1.length : Int)))), (8, (.d (.sl 13 (p1.map cGItem)))), (7, (.d (.i .i64 (p0.length : Int)))), (6, (.d (.sl 13 (p0.map cGItem)))), (4, (.d (.b false))), (0, (.d (.sl 13 (p0.map cGItem)))), (1, (.d (.sl 13 (p1.map cGItem))))], []⟩) (by kernel_rfl) ?_
      refine nil_in ?_
      refine next_in ?_
      refine ret_in ?_
      refine thenK_ret ?_
      have h := Option.some.inj h; subst h
      exact ret1_step (v := (.d (.b false))) (by kernel_rfl) (by kernel_rfl) (by kernel_rfl)
    · clear h; intro h
      refine skip_in ?_
      refine next_in ?_
      refine seq_in ?_
      refine seq_in ?_
      refine ops_in ?_
      refine sts_ok 1 (s' := ⟨[(5, (.d (.i .i64 0))), (10, (.d (.b (!decide ((p0.length : Int) = (p1.length : Int)))))), (9, (.d (.i .i64 (p1.length : Int)))), (8, (.d (.sl 13 (p1.map cGItem)))), (7, (.d (.i .i64 (p0.length : Int)))), (6, (.d (.sl 13 (p0.map cGItem)))), (4, (.d (.b false))), (0, (.d (.sl 13 (p0.map cGItem)))), (1, (.d (.sl 13 (p1.map cGItem))))], []⟩) (by kernel_rfl) ?_
      refine nil_in ?_
      refine next_in ?_
      refine block_in ?_
      exact loop_go (s' := stwEqItemS_L0 p0 p1 0) (wk_ren [] (by kernel_rfl) (er_cons (vr_same (by kernel_rfl) (by kernel_rfl)) (er_cons (vr_same (by kernel_rfl) (by kernel_rfl)) (er_cons (vr_same (by kernel_rfl) (by kernel_rfl)) (er_nil)))) (br_nil)) (OK_wEqItemS_L0 p0 p1 0 _ h)
  · intro F_wEqItemS_L0 F_wEqItem OK_wEqItemS_L0 OK_wEqItem p0 p1 x5 r h
    delta acwEqItemS_L0
    refine loop_unroll ?_
    refine seq_in ?_
    refine seq_in ?_
    refine ops_in ?_
    refine sts_ok 2 (s' := ⟨(12, (.d (.sl 13 (p0.map cGItem)))) :: (11, (.d (.i .i64 x5))) :: (stwEqItemS_L0 p0 p1 x5).env, (stwEqItemS_L0 p0 p1 x5).bx⟩) (by kernel_rfl) ?_
    refine p_step (v' := (.d (.i .i64 (p0.length : Int)))) rfl rfl (vop_len (sz := 13) (l := p0) (f := cGItem) (by kernel_rfl) (by kernel_rfl)) ?_
    refine sts_ok 1 (s' := ⟨(14, (.d (.b (decide (x5 < (p0.length : Int)))))) :: (13, (.d (.i .i64 (p0.length : Int)))) :: (12, (.d (.sl 13 (p0.map cGItem)))) :: (11, (.d (.i .i64 x5))) :: (stwEqItemS_L0 p0 p1 x5).env, (stwEqItemS_L0 p0 p1 x5).bx⟩) (by kernel_rfl) ?_
    refine nil_in ?_
    refine next_in ?_
    refine cond_step h (by kernel_rfl) ?_ ?_
    · clear h; intro h
      refine skip_in ?_
      refine next_in ?_
      refine seq_in ?_
      refine block_in ?_
      refine seq_in ?_
      refine dops_in ?_
      refine dsts_ok 2 (s' := ⟨(18, (.d (.i .i64 x5))) :: (17, (.d (.sl 13 (p0.map cGItem)))) :: (14, (.d (.b (decide (x5 < (p0.length : Int)))))) :: (13, (.d (.i .i64 (p0.length : Int)))) :: (12, (.d (.sl 13 (p0.map cGItem)))) :: (11, (.d (.i .i64 x5))) :: (stwEqItemS_L0 p0 p1 x5).env, (stwEqItemS_L0 p0 p1 x5).bx⟩) (by kernel_rfl) ?_
      refine dv_step (m := idx p0 x5) (v' := fun y => (.rp [(.b y.star), (.s (bs y.qual)), (.i .i64 y.expr.kind), (.i .i64 y.expr.op), (.b y.expr.not_), (.i .i64 y.expr.value.kind), (.i .i64 y.expr.value.num), (.s (bs y.expr.value.text)), (.s (bs y.expr.qual)), (.s (bs y.expr.name)), (.sl 10 (y.expr.kids.map cGExpr)), (.sl 6 (y.expr.sub.map cGQuery)), (.s (bs y.as_))])) h rfl rfl (fun y hy => vop_ia (l := p0) (f := cGItem) (g := oGItem) (k := .i64) hy cGItem_eq (by kernel_rfl) (by kernel_rfl) (by kernel_rfl)) ?_
      clear h; intro y1 h
      refine dsts_ok 3 (s' := ⟨(22, (.d (.i .i64 x5))) :: (21, (.d (.sl 13 (p1.map cGItem)))) :: (20, (vGItem y1)) :: (19, (.rp [(.b y1.star), (.s (bs y1.qual)), (.i .i64 y1.expr.kind), (.i .i64 y1.expr.op), (.b y1.expr.not_), (.i .i64 y1.expr.value.kind), (.i .i64 y1.expr.value.num), (.s (bs y1.expr.value.text)), (.s (bs y1.expr.qual)), (.s (bs y1.expr.name)), (.sl 10 (y1.expr.kids.map cGExpr)), (.sl 6 (y1.expr.sub.map cGQuery)), (.s (bs y1.as_))])) :: (18, (.d (.i .i64 x5))) :: (17, (.d (.sl 13 (p0.map cGItem)))) :: (14, (.d (.b (decide (x5 < (p0.length : Int)))))) :: (13, (.d (.i .i64 (p0.length : Int)))) :: (12, (.d (.sl 13 (p0.map cGItem)))) :: (11, (.d (.i .i64 x5))) :: (stwEqItemS_L0 p0 p1 x5).env, (stwEqItemS_L0 p0 p1 x5).bx⟩) (by kernel_rfl) ?_
      refine dv_step (m := idx p1 x5) (v' := fun y => (.rp [(.b y.star), (.s (bs y.qual)), (.i .i64 y.expr.kind), (.i .i64 y.expr.op), (.b y.expr.not_), (.i .i64 y.expr.value.kind), (.i .i64 y.expr.value.num), (.s (bs y.expr.value.text)), (.s (bs y.expr.qual)), (.s (bs y.expr.name)), (.sl 10 (y.expr.kids.map cGExpr)), (.sl 6 (y.expr.sub.map cGQuery)), (.s (bs y.as_))])) h rfl rfl (fun y hy => vop_ia (l := p1) (f := cGItem) (g := oGItem) (k := .i64) hy cGItem_eq (by kernel_rfl) (by kernel_rfl) (by kernel_rfl)) ?_
      clear h; intro y2 h
      refine dsts_ok 1 (s' := ⟨(24, (vGItem y2)) :: (23, (.rp [(.b y2.star), (.s (bs y2.qual)), (.i .i64 y2.expr.kind), (.i .i64 y2.expr.op), (.b y2.expr.not_), (.i .i64 y2.expr.value.kind), (.i .i64 y2.expr.value.num), (.s (bs y2.expr.value.text)), (.s (bs y2.expr.qual)), (.s (bs y2.expr.name)), (.sl 10 (y2.expr.kids.map cGExpr)), (.sl 6 (y2.expr.sub.map cGQuery)), (.s (bs y2.as_))])) :: (22, (.d (.i .i64 x5))) :: (21, (.d (.sl 13 (p1.map cGItem)))) :: (20, (vGItem y1)) :: (19, (.rp [(.b y1.star), (.s (bs y1.qual)), (.i .i64 y1.expr.kind), (.i .i64 y1.expr.op), (.b y1.expr.not_), (.i .i64 y1.expr.value.kind), (.i .i64 y1.expr.value.num), (.s (bs y1.expr.value.text)), (.s (bs y1.expr.qual)), (.s (bs y1.expr.name)), (.sl 10 (y1.expr.kids.map cGExpr)), (.sl 6 (y1.expr.sub.map cGQuery)), (.s (bs y1.as_))])) :: (18, (.d (.i .i64 x5))) :: (17, (.d (.sl 13 (p0.map cGItem)))) :: (14, (.d (.b (decide (x5 < (p0.length : Int)))))) :: (13, (.d (.i .i64 (p0.length : Int)))) :: (12, (.d (.sl 13 (p0.map cGItem)))) :: (11, (.d (.i .i64 x5))) :: (stwEqItemS_L0 p0 p1 x5).env, (stwEqItemS_L0 p0 p1 x5).bx⟩) (by kernel_rfl) ?_
      refine dcall_step (m := F_wEqItem y1 y2) (args := [(vGItem y1), (vGItem y2)]) (v' := (fun y => (.d (.b y)))) h (OK_wEqItem y1 y2) (by kernel_rfl) (by kernel_rfl) (fun _ => rfl) ?_
      clear h; intro y3 h
      refine dsts_ok 1 (s' := ⟨(26, (.d (.b (!y3)))) :: (25, (.d (.b y3))) :: (24, (vGItem y2)) :: (23, (.rp [(.b y2.star), (.s (bs y2.qual)), (.i .i64 y2.expr.kind), (.i .i64 y2.expr.op), (.b y2.expr.not_), (.i .i64 y2.expr.value.kind), (.i .i64 y2.expr.value.num), (.s (bs y2.expr.value.text)), (.s (bs y2.expr.qual)), (.s (bs y2.expr.name)), (.sl 10 (y2.expr.kids.map cGExpr)), (.sl 6 (y2.expr.sub.map cGQuery)), (.s (bs y2.as_))])) :: (22, (.d (.i .i64 x5))) :: (21, (.d (.sl 13 (p1.map cGItem)))) :: (20, (vGItem y1)) :: (19, (.rp [(.b y1.star), (.s (bs y1.qual)), (.i .i64 y1.expr.kind), (.i .i64 y1.expr.op), (.b y1.expr.not_), (.i .i64 y1.expr.value.kind), (.i .i64 y1.expr.value.num), (.s (bs y1.expr.value.text)), (.s (bs y1.expr.qual)), (.s (bs y1.expr.name)), (.sl 10 (y1.expr.kids.map cGExpr)), (.sl 6 (y1.expr.sub.map cGQuery)), (.s (bs y1.as_))])) :: (18, (.d (.i .i64 x5))) :: (17, (.d (.sl 13 (p0.map cGItem)))) :: (14, (.d (.b (decide (x5 < (p0.length : Int)))))) :: (13, (.d (.i .i64 (p0.length : Int)))) :: (12, (.d (.sl 13 (p0.map cGItem)))) :: (11, (.d (.i .i64 x5))) :: (stwEqItemS_L0 p0 p1 x5).env, (stwEqItemS_L0 p0 p1 x5).bx⟩) (by kernel_rfl) ?_
      refine dnil_in (by kernel_rfl) (by kernel_rfl) ?_
      refine next_in ?_
      refine cond_step h (by kernel_rfl) ?_ ?_
      · clear h; intro h
        refine seq_in ?_
        refine ops_in ?_
        refine sts_ok 1 (s' := ⟨(4, (.d (.b false))) :: (26, (.d (.b (!y3)))) :: (25, (.d (.b y3))) :: (24, (vGItem y2)) :: (23, (.rp [(.b y2.star), (.s (bs y2.qual)), (.i .i64 y2.expr.kind), (.i .i64 y2.expr.op), (.b y2.expr.not_), (.i .i64 y2.expr.value.kind), (.i .i64 y2.expr.value.num), (.s (bs y2.expr.value.text)), (.s (bs y2.expr.qual)), (.s (bs y2.expr.name)), (.sl 10 (y2.expr.kids.map cGExpr)), (.sl 6 (y2.expr.sub.map cGQuery)), (.s (bs y2.as_))])) :: (22, (.d (.i .i64 x5))) :: (21, (.d (.sl 13 (p1.map cGItem)))) :: (20, (vGItem y1)) :: (19, (.rp [(.b y1.star), (.s (bs y1.qual)), (.i .i64 y1.expr.kind), (.i .i64 y1.expr.op), (.b y1.expr.not_), (.i .i64 y1.expr.value.kind), (.i .i64 y1.expr.value.num), (.s (bs y1.expr.value.text)), (.s (bs y1.expr.qual)), (.s (bs y1.expr.name)), (.sl 10 (y1.expr.kids.map cGExpr)), (.sl 6 (y1.expr.sub.map cGQuery)), (.s (bs y1.as_))])) :: (18, (.d (.i .i64 x5))) :: (17, (.d (.sl 13 (p0.map cGItem)))) :: (14, (.d (.b (decide (x5 < (p0.length : Int)))))) :: (13, (.d (.i .i64 (p0.length : Int)))) :: (12, (.d (.sl 13 (p0.map cGItem)))) :: (11, (.d (.i .i64 x5))) :: (stwEqItemS_L0 p0 p1 x5).env, (stwEqItemS_L0 p0 p1 x5).bx⟩) (by kernel_rfl) ?_
        refine nil_in ?_
        refine next_in ?_
        refine ret_in ?_
        refine blockK_ret ?_
        refine thenK_ret ?_
        refine thenK_ret ?_
        refine blockK_ret ?_
        refine thenK_ret ?_
        have h := Option.some.inj h; subst h
        exact ret1_step (v := (.d (.b false))) (by kernel_rfl) (by kernel_rfl) (by kernel_rfl)
      · clear h; intro h
        refine skip_in ?_
        refine blockK_norm ?_
        refine next_in ?_
        refine ops_in ?_
        refine sts_ok 3 (s' := ⟨(5, (.d (.i .i64 (IntKind.wrap .i64 (x5 + 1))))) :: (16, (.d (.i .i64 (IntKind.wrap .i64 (x5 + 1))))) :: (15, (.d (.i .i64 x5))) :: (26, (.d (.b (!y3)))) :: (25, (.d (.b y3))) :: (24, (vGItem y2)) :: (23, (.rp [(.b y2.star), (.s (bs y2.qual)), (.i .i64 y2.expr.kind), (.i .i64 y2.expr.op), (.b y2.expr.not_), (.i .i64 y2.expr.value.kind), (.i .i64 y2.expr.value.num), (.s (bs y2.expr.value.text)), (.s (bs y2.expr.qual)), (.s (bs y2.expr.name)), (.sl 10 (y2.expr.kids.map cGExpr)), (.sl 6 (y2.expr.sub.map cGQuery)), (.s (bs y2.as_))])) :: (22, (.d (.i .i64 x5))) :: (21, (.d (.sl 13 (p1.map cGItem)))) :: (20, (vGItem y1)) :: (19, (.rp [(.b y1.star), (.s (bs y1.qual)), (.i .i64 y1.expr.kind), (.i .i64 y1.expr.op), (.b y1.expr.not_), (.i .i64 y1.expr.value.kind), (.i .i64 y1.expr.value.num), (.s (bs y1.expr.value.text)), (.s (bs y1.expr.qual)), (.s (bs y1.expr.name)), (.sl 10 (y1.expr.kids.map cGExpr)), (.sl 6 (y1.expr.sub.map cGQuery)), (.s (bs y1.as_))])) :: (18, (.d (.i .i64 x5))) :: (17, (.d (.sl 13 (p0.map cGItem)))) :: (14, (.d (.b (decide (x5 < (p0.length : Int)))))) :: (13, (.d (.i .i64 (p0.length : Int)))) :: (12, (.d (.sl 13 (p0.map cGItem)))) :: (11, (.d (.i .i64 x5))) :: (stwEqItemS_L0 p0 p1 x5).env, (stwEqItemS_L0 p0 p1 x5).bx⟩) (by kernel_rfl) ?_
        refine nil_in ?_
        exact loop_back (s' := stwEqItemS_L0 p0 p1 (IntKind.wrap .i64 (x5 + 1))) (wk_ren [] (by kernel_rfl) (er_cons (vr_same (by kernel_rfl) (by kernel_rfl)) (er_cons (vr_same (by kernel_rfl) (by kernel_rfl)) (er_cons (vr_same (by kernel_rfl) (by kernel_rfl)) (er_nil)))) (br_nil)) (OK_wEqItemS_L0 p0 p1 (IntKind.wrap .i64 (x5 + 1)) _ h)
    · clear h; intro h
      refine exit_in ?_
      refine thenK_exit ?_
      refine thenK_exit ?_
      refine blockK_here ?_
      refine next_in ?_
      refine seq_in ?_
      refine ops_in ?_
      refine sts_ok 1 (s' := ⟨(4, (.d (.b true))) :: (14, (.d (.b (decide (x5 < (p0.length : Int)))))) :: (13, (.d (.i .i64 (p0.length : Int)))) :: (12, (.d (.sl 13 (p0.map cGItem)))) :: (11, (.d (.i .i64 x5))) :: (stwEqItemS_L0 p0 p1 x5).env, (stwEqItemS_L0 p0 p1 x5).bx⟩) (by kernel_rfl) ?_
      refine nil_in ?_
      refine next_in ?_
      refine ret_in ?_
      have h := Option.some.inj h; subst h
      exact ret1_step (v := (.d (.b true))) (by kernel_rfl) (by kernel_rfl) (by kernel_rfl)
  · intro F_wEqExpr OK_wEqExpr p0 p1 r h
    refine acalls_of_fn trwEqItem (Nat.le_of_ble_eq_true rfl) (by simp) ?_
    show avc Try.prog acwEqItem (qwEqItem _) ⟨[(0, (vGItem p0)), (1, (vGItem p1))], []⟩
    delta acwEqItem
    refine seq_in ?_
    refine ops_in ?_
    refine sts_ok 3 (s' := ⟨[(4, (.d (.b false))), (3, (.ptr 3 0)), (2, (.ptr 2 0)), (0, (vGItem p0)), (1, (vGItem p1))], [(3, [(.d (.b p1.star)), (.d (.s (bs p1.qual))), (.d (.i .i64 p1.expr.kind)), (.d (.i .i64 p1.expr.op)), (.d (.b p1.expr.not_)), (.d (.i .i64 p1.expr.value.kind)), (.d (.i .i64 p1.expr.value.num)), (.d (.s (bs p1.expr.value.text))), (.d (.s (bs p1.expr.qual))), (.d (.s (bs p1.expr.name))), (.d (.sl 10 (p1.expr.kids.map cGExpr))), (.d (.sl 6 (p1.expr.sub.map cGQuery))), (.d (.s (bs p1.as_)))]), (2, [(.d (.b p0.star)), (.d (.s (bs p0.qual))), (.d (.i .i64 p0.expr.kind)), (.d (.i .i64 p0.expr.op)), (.d (.b p0.expr.not_)), (.d (.i .i64 p0.expr.value.kind)), (.d (.i .i64 p0.expr.value.num)), (.d (.s (bs p0.expr.value.text))), (.d (.s (bs p0.expr.qual))), (.d (.s (bs p0.expr.name))), (.d (.sl 10 (p0.expr.kids.map cGExpr))), (.d (.sl 6 (p0.expr.sub.map cGQuery))), (.d (.s (bs p0.as_)))])]⟩) (by kernel_rfl) ?_
    refine nil_in ?_
    refine next_in ?_
    refine seq_in ?_
    refine seq_in ?_
    refine ops_in ?_
    refine sts_ok 5 (s' := ⟨[(9, (.d (.b (!(p0.star == p1.star))))), (8, (.d (.b p1.star))), (7, (.ptr 3 0)), (6, (.d (.b p0.star))), (5, (.ptr 2 0)), (4, (.d (.b false))), (3, (.ptr 3 0)), (2, (.ptr 2 0)), (0, (vGItem p0)), (1, (vGItem p1))], [(3, [(.d (.b p1.star)), (.d (.s (bs p1.qual))), (.d (.i .i64 p1.expr.kind)), (.d (.i .i64 p1.expr.op)), (.d (.b p1.expr.not_)), (.d (.i .i64 p1.expr.value.kind)), (.d (.i .i64 p1.expr.value.num)), (.d (.s (bs p1.expr.value.text))), (.d (.s (bs p1.expr.qual))), (.d (.s (bs p1.expr.name))), (.d (.sl 10 (p1.expr.kids.map cGExpr))), (.d (.sl 6 (p1.expr.sub.map cGQuery))), (.d (.s (bs p1.as_)))]), (2, [(.d (.b p0.star)), (.d (.s (bs p0.qual))), (.d (.i .i64 p0.expr.kind)), (.d (.i .i64 p0.expr.op)), (.d (.b p0.expr.not_)), (.d (.i .i64 p0.expr.value.kind)), (.d (.i .i64 p0.expr.value.num)), (.d (.s (bs p0.expr.value.text))), (.d (.s (bs p0.expr.qual))), (.d (.s (bs p0.expr.name))), (.d (.sl 10 (p0.expr.kids.map cGExpr))), (.d (.sl 6 (p0.expr.sub.map cGQuery))), (.d (.s (bs p0.as_)))])]⟩) (by kernel_rfl) ?_
    refine nil_in ?_
    refine next_in ?_
    refine cond_step h (by kernel_rfl) ?_ ?_
    · clear h; intro h
      refine seq_in ?_
      refine ops_in ?_
      refine sts_ok 1 (s' := ⟨[(4, (.d (.b false))), (9, (.d (.b (!(p0.star == p1.star))))), (8, (.d (.b p1.star))), (7, (.ptr 3 0)), (6, (.d (.b p0.star))), (5, (.ptr 2 0)), (4, (.d (.b false))), (3, (.ptr 3 0)), (2, (.ptr 2 0)), (0, (vGItem p0)), (1, (vGItem p1))], [(3, [(.d (.b p1.star)), (.d (.s (bs p1.qual))), (.d (.i .i64 p1.expr.kind)), (.d (.i .i64 p1.expr.op)), (.d (.b p1.expr.not_)), (.d (.i .i64 p1.expr.value.kind)), (.d (.i .i64 p1.expr.value.num)), (.d (.s (bs p1.expr.value.text))), (.d (.s (bs p1.expr.qual))), (.d (.s (bs p1.expr.name))), (.d (.sl 10 (p1.expr.kids.map cGExpr))), (.d (.sl 6 (p1.expr.sub.map cGQuery))), (.d (.s (bs p1.as_)))]), (2, [(.d (.b p0.star)), (.d (.s (bs p0.qual))), (.d (.i .i64 p0.expr.kind)), (.d (.i .i64 p0.expr.op)), (.d (.b p0.expr.not_)), (.d (.i .i64 p0.expr.value.kind)), (.d (.i .i64 p0.expr.value.num)), (.d (.s (bs p0.expr.value.text))), (.d (.s (bs p0.expr.qual))), (.d (.s (bs p0.expr.name))), (.d (.sl 10 (p0.expr.kids.map cGExpr))), (.d (.sl 6 (p0.expr.sub.map cGQuery))), (.d (.s (bs p0.as_)))])]⟩) (by kernel_rfl) ?_
      refine nil_in ?_
      refine next_in ?_
      refine ret_in ?_
      refine thenK_ret ?_
      have h := Option.some.inj h; subst h
      exact ret1_step (v := (.d (.b false))) (by kernel_rfl) (by kernel_rfl) (by kernel_rfl)
    · clear h; intro h
      refine skip_in ?_
      refine next_in ?_
      refine seq_in ?_
      refine seq_in ?_
      refine ops_in ?_
      refine sts_ok 5 (s' := ⟨[(14, (.d (.b (!decide (p0.qual = p1.qual))))), (13, (.d (.s (bs p1.qual)))), (12, (.ptr 3 1)), (11, (.d (.s (bs p0.qual)))), (10, (.ptr 2 1)), (9, (.d (.b (!(p0.star == p1.star))))), (8, (.d (.b p1.star))), (7, (.ptr 3 0)), (6, (.d (.b p0.star))), (5, (.ptr 2 0)), (4, (.d (.b false))), (3, (.ptr 3 0)), (2, (.ptr 2 0)), (0, (vGItem p0)), (1, (vGItem p1))], [(3, [(.d (.b p1.star)), (.d (.s (bs p1.qual))), (.d (.i .i64 p1.expr.kind)), (.d (.i .i64 p1.expr.op)), (.d (.b p1.expr.not_)), (.d (.i .i64 p1.expr.value.kind)), (.d (.i .i64 p1.expr.value.num)), (.d (.s (bs p1.expr.value.text))), (.d (.s (bs p1.expr.qual))), (.d (.s (bs p1.expr.name))), (.d (.sl 10 (p1.expr.kids.map cGExpr))), (.d (.sl 6 (p1.expr.sub.map cGQuery))), (.d (.s (bs p1.as_)))]), (2, [(.d (.b p0.star)), (.d (.s (bs p0.qual))), (.d (.i .i64 p0.expr.kind)), (.d (.i .i64 p0.expr.op)), (.d (.b p0.expr.not_)), (.d (.i .i64 p0.expr.value.kind)), (.d (.i .i64 p0.expr.value.num)), (.d (.s (bs p0.expr.value.text))), (.d (.s (bs p0.expr.qual))), (.d (.s (bs p0.expr.name))), (.d (.sl 10 (p0.expr.kids.map cGExpr))), (.d (.sl 6 (p0.expr.sub.map cGQuery))), (.d (.s (bs p0.as_)))])]⟩) (by kernel_rfl) ?_
      refine nil_in ?_
      refine next_in ?_
      refine cond_step h (by kernel_rfl) ?_ ?_
      · clear h; intro h
        refine seq_in ?_
        refine ops_in ?_
        refine sts_ok 1 (s' := ⟨[(4, (.d (.b false))), (14, (.d (.b (!decide (p0.qual = p1.qual))))), (13, (.d (.s (bs p1.qual)))), (12, (.ptr 3 1)), (11, (.d (.s (bs p0.qual)))), (10, (.ptr 2 1)), (9, (.d (.b (!(p0.star == p1.star))))), (8, (.d (.b p1.star))), (7, (.ptr 3 0)), (6, (.d (.b p0.star))), (5, (.ptr 2 0)), (4, (.d (.b false))), (3, (.ptr 3 0)), (2, (.ptr 2 0)), (0, (vGItem p0)), (1, (vGItem p1))], [(3, [(.d (.b p1.star)), (.d (.s (bs p1.qual))), (.d (.i .i64 p1.expr.kind)), (.d (.i .i64 p1.expr.op)), (.d (.b p1.expr.not_)), (.d (.i .i64 p1.expr.value.kind)), (.d (.i .i64 p1.expr.value.num)), (.d (.s (bs p1.expr.value.text))), (.d (.s (bs p1.expr.qual))), (.d (.s (bs p1.expr.name))), (.d (.sl 10 (p1.expr.kids.map cGExpr))), (.d (.sl 6 (p1.expr.sub.map cGQuery))), (.d (.s (bs p1.as_)))]), (2, [(.d (.b p0.star)), (.d (.s (bs p0.qual))), (.d (.i .i64 p0.expr.kind)), (.d (.i .i64 p0.expr.op)), (.d (.b p0.expr.not_)), (.d (.i .i64 p0.expr.value.kind)), (.d (.i .i64 p0.expr.value.num)), (.d (.s (bs p0.expr.value.text))), (.d (.s (bs p0.expr.qual))), (.d (.s (bs p0.expr.name))), (.d (.sl 10 (p0.expr.kids.map cGExpr))), (.d (.sl 6 (p0.expr.sub.map cGQuery))), (.d (.s (bs p0.as_)))])]⟩) (by kernel_rfl) ?_
        refine nil_in ?_
        refine next_in ?_
        refine ret_in ?_
        refine thenK_ret ?_
        have h := Option.some.inj h; subst h
        exact ret1_step (v := (.d (.b false))) (by kernel_rfl) (by kernel_rfl) (by kernel_rfl)
      · clear h; intro h
        refine skip_in ?_
        refine next_in ?_
        refine seq_in ?_
        refine seq_in ?_
        refine ops_in ?_
        refine sts_ok 4 (s' := ⟨[(18, (vGExpr p1.expr)), (17, (.ptr 3 2)), (16, (vGExpr p0.expr)), (15, (.ptr 2 2)), (14, (.d (.b (!decide (p0.qual = p1.qual))))), (13, (.d (.s (bs p1.qual)))), (12, (.ptr 3 1)), (11, (.d (.s (bs p0.qual)))), (10, (.ptr 2 1)), (9, (.d (.b (!(p0.star == p1.star))))), (8, (.d (.b p1.star))), (7, (.ptr 3 0)), (6, (.d (.b p0.star))), (5, (.ptr 2 0)), (4, (.d (.b false))), (3, (.ptr 3 0)), (2, (.ptr 2 0)), (0, (vGItem p0)), (1, (vGItem p1))], [(3, [(.d (.b p1.star)), (.d (.s (bs p1.qual))), (.d (.i .i64 p1.expr.kind)), (.d (.i .i64 p1.expr.op)), (.d (.b p1.expr.not_)), (.d (.i .i64 p1.expr.value.kind)), (.d (.i .i64 p1.expr.value.num)), (.d (.s (bs p1.expr.value.text))), (.d (.s (bs p1.expr.qual))), (.d (.s (bs p1.expr.name))), (.d (.sl 10 (p1.expr.kids.map cGExpr))), (.d (.sl 6 (p1.expr.sub.map cGQuery))), (.d (.s (bs p1.as_)))]), (2, [(.d (.b p0.star)), (.d (.s (bs p0.qual))), (.d (.i .i64 p0.expr.kind)), (.d (.i .i64 p0.expr.op)), (.d (.b p0.expr.not_)), (.d (.i .i64 p0.expr.value.kind)), (.d (.i .i64 p0.expr.value.num)), (.d (.s (bs p0.expr.value.text))), (.d (.s (bs p0.expr.qual))), (.d (.s (bs p0.expr.name))), (.d (.sl 10 (p0.expr.kids.map cGExpr))), (.d (.sl 6 (p0.expr.sub.map cGQuery))), (.d (.s (bs p0.as_)))])]⟩) (by kernel_rfl) ?_
        refine call_step (m := F_wEqExpr p0.expr p1.expr) (args := [(vGExpr p0.expr), (vGExpr p1.expr)]) (v' := (fun y => (.d (.b y)))) h (OK_wEqExpr p0.expr p1.expr) (by kernel_rfl) (by kernel_rfl) (fun _ => rfl) ?_
        clear h; intro y1 h
        refine sts_ok 1 (s' := ⟨[(20, (.d (.b (!y1)))), (19, (.d (.b y1))), (18, (vGExpr p1.expr)), (17, (.ptr 3 2)), (16, (vGExpr p0.expr)), (15, (.ptr 2 2)), (14, (.d (.b (!decide (p0.qual = p1.qual))))), (13, (.d (.s (bs p1.qual)))), (12, (.ptr 3 1)), (11, (.d (.s (bs p0.qual)))), (10, (.ptr 2 1)), (9, (.d (.b (!(p0.star == p1.star))))), (8, (.d (.b p1.star))), (7, (.ptr 3 0)), (6, (.d (.b p0.star))), (5, (.ptr 2 0)), (4, (.d (.b false))), (3, (.ptr 3 0)), (2, (.ptr 2 0)), (0, (vGItem p0)), (1, (vGItem p1))], [(3, [(.d (.b p1.star)), (.d (.s (bs p1.qual))), (.d (.i .i64 p1.expr.kind)), (.d (.i .i64 p1.expr.op)), (.d (.b p1.expr.not_)), (.d (.i .i64 p1.expr.value.kind)), (.d (.i .i64 p1.expr.value.num)), (.d (.s (bs p1.expr.value.text))), (.d (.s (bs p1.expr.qual))), (.d (.s (bs p1.expr.name))), (.d (.sl 10 (p1.expr.kids.map cGExpr))), (.d (.sl 6 (p1.expr.sub.map cGQuery))), (.d (.s (bs p1.as_)))]), (2, [(.d (.b p0.star)), (.d (.s (bs p0.qual))), (.d (.i .i64 p0.expr.kind)), (.d (.i .i64 p0.expr.op)), (.d (.b p0.expr.not_)), (.d (.i .i64 p0.expr.value.kind)), (.d (.i .i64 p0.expr.value.num)), (.d (.s (bs p0.expr.value.text))), (.d (.s (bs p0.expr.qual))), (.d (.s (bs p0.expr.name))), (.d (.sl 10 (p0.expr.kids.map cGExpr))), (.d (.sl 6 (p0.expr.sub.map cGQuery))), (.d (.s (bs p0.as_)))])]⟩) (by kernel_rfl) ?_
        refine nil_in ?_
        refine next_in ?_
        refine cond_step h (by kernel_rfl) ?_ ?_
        · clear h; intro h
          refine seq_in ?_
          refine ops_in ?_
          refine sts_ok 1 (s' := ⟨[(4, (.d (.b false))), (20, (.d (.b (!y1)))), (19, (.d (.b y1))), (18, (vGExpr p1.expr)), (17, (.ptr 3 2)), (16, (vGExpr p0.expr)), (15, (.ptr 2 2)), (14, (.d (.b (!decide (p0.qual = p1.qual))))), (13, (.d (.s (bs p1.qual)))), (12, (.ptr 3 1)), (11, (.d (.s (bs p0.qual)))), (10, (.ptr 2 1)), (9, (.d (.b (!(p0.star == p1.star))))), (8, (.d (.b p1.star))), (7, (.ptr 3 0)), (6, (.d (.b p0.star))), (5, (.ptr 2 0)), (4, (.d (.b false))), (3, (.ptr 3 0)), (2, (.ptr 2 0)), (0, (vGItem p0)), (1, (vGItem p1))], [(3, [(.d (.b p1.star)), (.d (.s (bs p1.qual))), (.d (.i .i64 p1.expr.kind)), (.d (.i .i64 p1.expr.op)), (.d (.b p1.expr.not_)), (.d (.i .i64 p1.expr.value.kind)), (.d (.i .i64 p1.expr.value.num)), (.d (.s (bs p1.expr.value.text))), (.d (.s (bs p1.expr.qual))), (.d (.s (bs p1.expr.name))), (.d (.sl 10 (p1.expr.kids.map cGExpr))), (.d (.sl 6 (p1.expr.sub.map cGQuery))), (.d (.s (bs p1.as_)))]), (2, [(.d (.b p0.star)), (.d (.s (bs p0.qual))), (.d (.i .i64 p0.expr.kind)), (.d (.i .i64 p0.expr.op)), (.d (.b p0.expr.not_)), (.d (.i .i64 p0.expr.value.kind)), (.d (.i .i64 p0.expr.value.num)), (.d (.s (bs p0.expr.value.text))), (.d (.s (bs p0.expr.qual))), (.d (.s (bs p0.expr.name))), (.d (.sl 10 (p0.expr.kids.map cGExpr))), (.d (.sl 6 (p0.expr.sub.map cGQuery))), (.d (.s (bs p0.as_)))])]⟩) (by kernel_rfl) ?_
          refine nil_in ?_
          refine next_in ?_
          refine ret_in ?_
          refine thenK_ret ?_
          have h := Option.some.inj h; subst h
          exact ret1_step (v := (.d (.b false))) (by kernel_rfl) (by kernel_rfl) (by kernel_rfl)
        · clear h; intro h
          refine skip_in ?_
          refine next_in ?_
          refine seq_in ?_
          refine seq_in ?_
          refine ops_in ?_
          refine sts_ok 5 (s' := ⟨[(25, (.d (.b (!decide (p0.as_ = p1.as_))))), (24, (.d (.s (bs p1.as_)))), (23, (.ptr 3 12)), (22, (.d (.s (bs p0.as_)))), (21, (.ptr 2 12)), (20, (.d (.b (!y1)))), (19, (.d (.b y1))), (18, (vGExpr p1.expr)), (17, (.ptr 3 2)), (16, (vGExpr p0.expr)), (15, (.ptr 2 2)), (14, (.d (.b (!decide (p0.qual = p1.qual))))), (13, (.d (.s (bs p1.qual)))), (12, (.ptr 3 1)), (11, (.d (.s (bs p0.qual)))), (10, (.ptr 2 1)), (9, (.d (.b (!(p0.star == p1.star))))), (8, (.d (.b p1.star))), (7, (.ptr 3 0)), (6, (.d (.b p0.star))), (5, (.ptr 2 0)), (4, (.d (.b false))), (3, (.ptr 3 0)), (2, (.ptr 2 0)), (0, (vGItem p0)), (1, (vGItem p1))], [(3, [(.d (.b p1.star)), (.d (.s (bs p1.qual))), (.d (.i .i64 p1.expr.kind)), (.d (.i .i64 p1.expr.op)), (.d (.b p1.expr.not_)), (.d (.i .i64 p1.expr.value.kind)), (.d (.i .i64 p1.expr.value.num)), (.d (.s (bs p1.expr.value.text))), (.d (.s (bs p1.expr.qual))), (.d (.s (bs p1.expr.name))), (.d (.sl 10 (p1.expr.kids.map cGExpr))), (.d (.sl 6 (p1.expr.sub.map cGQuery))), (.d (.s (bs p1.as_)))]), (2, [(.d (.b p0.star)), (.d (.s (bs p0.qual))), (.d (.i .i64 p0.expr.kind)), (.d (.i .i64 p0.expr.op)), (.d (.b p0.expr.not_)), (.d (.i .i64 p0.expr.value.kind)), (.d (.i .i64 p0.expr.value.num)), (.d (.s (bs p0.expr.value.text))), (.d (.s (bs p0.expr.qual))), (.d (.s (bs p0.expr.name))), (.d (.sl 10 (p0.expr.kids.map cGExpr))), (.d (.sl 6 (p0.expr.sub.map cGQuery))), (.d (.s (bs p0.as_)))])]⟩) (by kernel_rfl) ?_
          refine nil_in ?_
          refine next_in ?_
          refine cond_step h (by kernel_rfl) ?_ ?_
          · clear h; intro h
            refine seq_in ?_
            refine ops_in ?_
            refine sts_ok 1 (s' := ⟨[(4, (.d (.b false))), (25, (.d (.b (!decide (p0.as_ = p1.as_))))), (24, (.d (.s (bs p1.as_)))), (23, (.ptr 3 12)), (22, (.d (.s (bs p0.as_)))), (21, (.ptr 2 12)), (20, (.d (.b (!y1)))), (19, (.d (.b y1))), (18, (vGExpr p1.expr)), (17, (.ptr 3 2)), (16, (vGExpr p0.expr)), (15, (.ptr 2 2)), (14, (.d (.b (!decide (p0.qual = p1.qual))))), (13, (.d (.s (bs p1.qual)))), (12, (.ptr 3 1)), (11, (.d (.s (bs p0.qual)))), (10, (.ptr 2 1)), (9, (.d (.b (!(p0.star == p1.star))))), (8, (.d (.b p1.star))), (7, (.ptr 3 0)), (6, (.d (.b p0.star))), (5, (.ptr 2 0)), (4, (.d (.b false))), (3, (.ptr 3 0)), (2, (.ptr 2 0)), (0, (vGItem p0)), (1, (vGItem p1))], [(3, [(.d (.b p1.star)), (.d (.s (bs p1.qual))), (.d (.i .i64 p1.expr.kind)), (.d (.i .i64 p1.expr.op)), (.d (.b p1.expr.not_)), (.d (.i .i64 p1.expr.value.kind)), (.d (.i .i64 p1.expr.value.num)), (.d (.s (bs p1.expr.value.text))), (.d (.s (bs p1.expr.qual))), (.d (.s (bs p1.expr.name))), (.d (.sl 10 (p1.expr.kids.map cGExpr))), (.d (.sl 6 (p1.expr.sub.map cGQuery))), (.d (.s (bs p1.as_)))]), (2, [(.d (.b p0.star)), (.d (.s (bs p0.qual))), (.d (.i .i64 p0.expr.kind)), (.d (.i .i64 p0.expr.op)), (.d (.b p0.expr.not_)), (.d (.i .i64 p0.expr.value.kind)), (.d (.i .i64 p0.expr.value.num)), (.d (.s (bs p0.expr.value.text))), (.d (.s (bs p0.expr.qual))), (.d (.s (bs p0.expr.name))), (.d (.sl 10 (p0.expr.kids.map cGExpr))), (.d (.sl 6 (p0.expr.sub.map cGQuery))), (.d (.s (bs p0.as_)))])]⟩) (by kernel_rfl) ?_
            refine nil_in ?_
            refine next_in ?_
            refine ret_in ?_
            refine thenK_ret ?_
            have h := Option.some.inj h; subst h
            exact ret1_step (v := (.d (.b false))) (by kernel_rfl) (by kernel_rfl) (by kernel_rfl)
          · clear h; intro h
            refine skip_in ?_
            refine next_in ?_
            refine seq_in ?_
            refine ops_in ?_
            refine sts_ok 1 (s' := ⟨[(4, (.d (.b true))), (25, (.d (.b (!decide (p0.as_ = p1.as_))))), (24, (.d (.s (bs p1.as_)))), (23, (.ptr 3 12)), (22, (.d (.s (bs p0.as_)))), (21, (.ptr 2 12)), (20, (.d (.b (!y1)))), (19, (.d (.b y1))), (18, (vGExpr p1.expr)), (17, (.ptr 3 2)), (16, (vGExpr p0.expr)), (15, (.ptr 2 2)), (14, (.d (.b (!decide (p0.qual = p1.qual))))), (13, (.d (.s (bs p1.qual)))), (12, (.ptr 3 1)), (11, (.d (.s (bs p0.qual)))), (10, (.ptr 2 1)), (9, (.d (.b (!(p0.star == p1.star))))), (8, (.d (.b p1.star))), (7, (.ptr 3 0)), (6, (.d (.b p0.star))), (5, (.ptr 2 0)), (4, (.d (.b false))), (3, (.ptr 3 0)), (2, (.ptr 2 0)), (0, (vGItem p0)), (1, (vGItem p1))], [(3, [(.d (.b p1.star)), (.d (.s (bs p1.qual))), (.d (.i .i64 p1.expr.kind)), (.d (.i .i64 p1.expr.op)), (.d (.b p1.expr.not_)), (.d (.i .i64 p1.expr.value.kind)), (.d (.i .i64 p1.expr.value.num)), (.d (.s (bs p1.expr.value.text))), (.d (.s (bs p1.expr.qual))), (.d (.s (bs p1.expr.name))), (.d (.sl 10 (p1.expr.kids.map cGExpr))), (.d (.sl 6 (p1.expr.sub.map cGQuery))), (.d (.s (bs p1.as_)))]), (2, [(.d (.b p0.star)), (.d (.s (bs p0.qual))), (.d (.i .i64 p0.expr.kind)), (.d (.i .i64 p0.expr.op)), (.d (.b p0.expr.not_)), (.d (.i .i64 p0.expr.value.kind)), (.d (.i .i64 p0.expr.value.num)), (.d (.s (bs p0.expr.value.text))), (.d (.s (bs p0.expr.qual))), (.d (.s (bs p0.expr.name))), (.d (.sl 10 (p0.expr.kids.map cGExpr))), (.d (.sl 6 (p0.expr.sub.map cGQuery))), (.d (.s (bs p0.as_)))])]⟩) (by kernel_rfl) ?_
            refine nil_in ?_
            refine next_in ?_
            refine ret_in ?_
            have h := Option.some.inj h; subst h
            exact ret1_step (v := (.d (.b true))) (by kernel_rfl) (by kernel_rfl) (by kernel_rfl)
theorem OK_wEqSource (p0 : GSource) (p1 : GSource) : FOk Try.prog 124 [(vGSource p0), (vGSource p1)] (fun y => (.d (.b y))) (wEqSource p0 p1) := fun r h => (OKs_wEqSource).1 p0 p1 r h
theorem OK_wEqExprS (p0 : (List GExpr)) (p1 : (List GExpr)) : FOk Try.prog 51 [(.d (.sl 10 (p0.map cGExpr))), (.d (.sl 10 (p1.map cGExpr)))] (fun y => (.d (.b y))) (wEqExprS p0 p1) := fun r h => (OKs_wEqSource).2.1 p0 p1 r h
theorem OK_wEqExprS_L0 (p0 : (List GExpr)) (p1 : (List GExpr)) (x5 : Int) (r : Bool) (h : wEqExprS_L0 p0 p1 x5 = some r) : avc Try.prog acwEqExprS_L0 (qwEqExprS_1 r) (stwEqExprS_L0 p0 p1 x5) := (OKs_wEqSource).2.2.1 p0 p1 x5 r h
theorem OK_wEqExpr (p0 : GExpr) (p1 : GExpr) : FOk Try.prog 23 [(vGExpr p0), (vGExpr p1)] (fun y => (.d (.b y))) (wEqExpr p0 p1) := fun r h => (OKs_wEqSource).2.2.2.1 p0 p1 r h
theorem OK_wEqQueryS (p0 : (List GQuery)) (p1 : (List GQuery)) : FOk Try.prog 78 [(.d (.sl 6 (p0.map cGQuery))), (.d (.sl 6 (p1.map cGQuery)))] (fun y => (.d (.b y))) (wEqQueryS p0 p1) := fun r h => (OKs_wEqSource).2.2.2.2.1 p0 p1 r h
theorem OK_wEqQueryS_L0 (p0 : (List GQuery)) (p1 : (List GQuery)) (x5 : Int) (r : Bool) (h : wEqQueryS_L0 p0 p1 x5 = some r) : avc Try.prog acwEqQueryS_L0 (qwEqQueryS_1 r) (stwEqQueryS_L0 p0 p1 x5) := (OKs_wEqSource).2.2.2.2.2.1 p0 p1 x5 r h
theorem OK_wEqQuery (p0 : GQuery) (p1 : GQuery) : FOk Try.prog 18 [(vGQuery p0), (vGQuery p1)] (fun y => (.d (.b y))) (wEqQuery p0 p1) := fun r h => (OKs_wEqSource).2.2.2.2.2.2.1 p0 p1 r h
theorem OK_wEqSortKeyS (p0 : (List GSortKey)) (p1 : (List GSortKey)) : FOk Try.prog 69 [(.d (.sl 11 (p0.map cGSortKey))), (.d (.sl 11 (p1.map cGSortKey)))] (fun y => (.d (.b y))) (wEqSortKeyS p0 p1) := fun r h => (OKs_wEqSource).2.2.2.2.2.2.2.1 p0 p1 r h
theorem OK_wEqSortKeyS_L0 (p0 : (List GSortKey)) (p1 : (List GSortKey)) (x5 : Int) (r : Bool) (h : wEqSortKeyS_L0 p0 p1 x5 = some r) : avc Try.prog acwEqSortKeyS_L0 (qwEqSortKeyS_1 r) (stwEqSortKeyS_L0 p0 p1 x5) := (OKs_wEqSource).2.2.2.2.2.2.2.2.1 p0 p1 x5 r h
theorem OK_wEqSortKey (p0 : GSortKey) (p1 : GSortKey) : FOk Try.prog 125 [(vGSortKey p0), (vGSortKey p1)] (fun y => (.d (.b y))) (wEqSortKey p0 p1) := fun r h => (OKs_wEqSource).2.2.2.2.2.2.2.2.2.1 p0 p1 r h
theorem OK_wEqSourceS (p0 : (List GSource)) (p1 : (List GSource)) : FOk Try.prog 68 [(.d (.sl 3 (p0.map cGSource))), (.d (.sl 3 (p1.map cGSource)))] (fun y => (.d (.b y))) (wEqSourceS p0 p1) := fun r h => (OKs_wEqSource).2.2.2.2.2.2.2.2.2.2.1 p0 p1 r h
theorem OK_wEqSourceS_L0 (p0 : (List GSource)) (p1 : (List GSource)) (x5 : Int) (r : Bool) (h : wEqSourceS_L0 p0 p1 x5 = some r) : avc Try.prog acwEqSourceS_L0 (qwEqSourceS_1 r) (stwEqSourceS_L0 p0 p1 x5) := (OKs_wEqSource).2.2.2.2.2.2.2.2.2.2.2.1 p0 p1 x5 r h
theorem OK_wEqItemS (p0 : (List GItem)) (p1 : (List GItem)) : FOk Try.prog 67 [(.d (.sl 13 (p0.map cGItem))), (.d (.sl 13 (p1.map cGItem)))] (fun y => (.d (.b y))) (wEqItemS p0 p1) := fun r h => (OKs_wEqSource).2.2.2.2.2.2.2.2.2.2.2.2.1 p0 p1 r h
theorem OK_wEqItemS_L0 (p0 : (List GItem)) (p1 : (List GItem)) (x5 : Int) (r : Bool) (h : wEqItemS_L0 p0 p1 x5 = some r) : avc Try.prog acwEqItemS_L0 (qwEqItemS_1 r) (stwEqItemS_L0 p0 p1 x5) := (OKs_wEqSource).2.2.2.2.2.2.2.2.2.2.2.2.2.1 p0 p1 x5 r h
theorem OK_wEqItem (p0 : GItem) (p1 : GItem) : FOk Try.prog 123 [(vGItem p0), (vGItem p1)] (fun y => (.d (.b y))) (wEqItem p0 p1) := fun r h => (OKs_wEqSource).2.2.2.2.2.2.2.2.2.2.2.2.2.2 p0 p1 r h
theorem OK_wSzValue (p0 : GValue) (p1 : Int) : FOk Try.prog 70 [(vGValue p0), (.d (.i .i64 p1))] (fun y => (.d (.i .i64 y))) (wSzValue p0 p1) := by
  intro r h
  rw [wSzValue] at h
  refine acalls_of_fn trwSzValue (Nat.le_of_ble_eq_true rfl) (by simp) ?_
  show avc Try.prog acwSzValue (qwSzValue _) ⟨[(0, (vGValue p0)), (1, (.d (.i .i64 p1)))], []⟩
  delta acwSzValue
  refine seq_in ?_
  refine ops_in ?_
  refine sts_ok 2 (s' := ⟨[(4, (.d (.i .i64 0))), (2, (.ptr 2 0)), (0, (vGValue p0)), (1, (.d (.i .i64 p1)))], [(2, [(.d (.i .i64 p0.kind)), (.d (.i .i64 p0.num)), (.d (.s (bs p0.text)))])]⟩) (by kernel_rfl) ?_
  refine nil_in ?_
  refine next_in ?_
  refine seq_in ?_
  refine ops_in ?_
  refine sts_ok 6 (s' := ⟨[(1, (.d (.i .i64 (IntKind.wrap .i64 (p1 - (p0.text.length : Int)))))), (9, (.d (.i .i64 (IntKind.wrap .i64 (p1 - (p0.text.length : Int)))))), (8, (.d (.i .i64 (p0.text.length : Int)))), (7, (.d (.s (bs p0.text)))), (6, (.ptr 2 2)), (5, (.d (.i .i64 p1))), (4, (.d (.i .i64 0))), (2, (.ptr 2 0)), (0, (vGValue p0)), (1, (.d (.i .i64 p1)))], [(2, [(.d (.i .i64 p0.kind)), (.d (.i .i64 p0.num)), (.d (.s (bs p0.text)))])]⟩) (by kernel_rfl) ?_
  refine nil_in ?_
  refine next_in ?_
  refine seq_in ?_
  refine seq_in ?_
  refine ops_in ?_
  refine sts_ok 2 (s' := ⟨[(11, (.d (.b (decide ((IntKind.wrap .i64 (p1 - (p0.text.length : Int))) < 0))))), (10, (.d (.i .i64 (IntKind.wrap .i64 (p1 - (p0.text.length : Int)))))), (1, (.d (.i .i64 (IntKind.wrap .i64 (p1 - (p0.text.length : Int)))))), (9, (.d (.i .i64 (IntKind.wrap .i64 (p1 - (p0.text.length : Int)))))), (8, (.d (.i .i64 (p0.text.length : Int)))), (7, (.d (.s (bs p0.text)))), (6, (.ptr 2 2)), (5, (.d (.i .i64 p1))), (4, (.d (.i .i64 0))), (2, (.ptr 2 0)), (0, (vGValue p0)), (1, (.d (.i .i64 p1)))], [(2, [(.d (.i .i64 p0.kind)), (.d (.i .i64 p0.num)), (.d (.s (bs p0.text)))])]⟩) (by kernel_rfl) ?_
  refine nil_in ?_
  refine next_in ?_
  refine cond_step h (by kernel_rfl) ?_ ?_
  · clear h; intro h
    refine seq_in ?_
    refine ops_in ?_
    refine sts_ok 1 (s' := ⟨[(4, (.d (.i .i64 (-1)))), (11, (.d (.b (decide ((IntKind.wrap .i64 (p1 - (p0.text.length : Int))) < 0))))), (10, (.d (.i .i64 (IntKind.wrap .i64 (p1 - (p0.text.length : Int)))))), (1, (.d (.i .i64 (IntKind.wrap .i64 (p1 - (p0.text.length : Int)))))), (9, (.d (.i .i64 (IntKind.wrap .i64 (p1 - (p0.text.length : Int)))))), (8, (.d (.i .i64 (p0.text.length : Int)))), (7, (.d (.s (bs p0.text)))), (6, (.ptr 2 2)), (5, (.d (.i .i64 p1))), (4, (.d (.i .i64 0))), (2, (.ptr 2 0)), (0, (vGValue p0)), (1, (.d (.i .i64 p1)))], [(2, [(.d (.i .i64 p0.kind)), (.d (.i .i64 p0.num)), (.d (.s (bs p0.text)))])]⟩) (by kernel_rfl) ?_
    refine nil_in ?_
    refine next_in ?_
    refine ret_in ?_
    refine thenK_ret ?_
    have h := Option.some.inj h; subst h
    exact ret1_step (v := (.d (.i .i64 (-1)))) (by kernel_rfl) (by kernel_rfl) (by kernel_rfl)
  · clear h; intro h
    refine skip_in ?_
    refine next_in ?_
    refine seq_in ?_
    refine ops_in ?_
    refine sts_ok 2 (s' := ⟨[(4, (.d (.i .i64 (IntKind.wrap .i64 (p1 - (p0.text.length : Int)))))), (12, (.d (.i .i64 (IntKind.wrap .i64 (p1 - (p0.text.length : Int)))))), (11, (.d (.b (decide ((IntKind.wrap .i64 (p1 - (p0.text.length : Int))) < 0))))), (10, (.d (.i .i64 (IntKind.wrap .i64 (p1 - (p0.text.length : Int)))))), (1, (.d (.i .i64 (IntKind.wrap .i64 (p1 - (p0.text.length : Int)))))), (9, (.d (.i .i64 (IntKind.wrap .i64 (p1 - (p0.text.length : Int)))))), (8, (.d (.i .i64 (p0.text.length : Int)))), (7, (.d (.s (bs p0.text)))), (6, (.ptr 2 2)), (5, (.d (.i .i64 p1))), (4, (.d (.i .i64 0))), (2, (.ptr 2 0)), (0, (vGValue p0)), (1, (.d (.i .i64 p1)))], [(2, [(.d (.i .i64 p0.kind)), (.d (.i .i64 p0.num)), (.d (.s (bs p0.text)))])]⟩) (by kernel_rfl) ?_
    refine nil_in ?_
    refine next_in ?_
    refine ret_in ?_
    have h := Option.some.inj h; subst h
    exact ret1_step (v := (.d (.i .i64 (IntKind.wrap .i64 (p1 - (p0.text.length : Int)))))) (by kernel_rfl) (by kernel_rfl) (by kernel_rfl)
end Go.Proofs.Ytdiknmniclancaa
