/- That the code computes these functions (printed by a program). -/
import Derived.Test.YtdiknmniclancaaCExactWrapsIn1
namespace Go.Proofs.Ytdiknmniclancaa
open Go Go.RowKit Go.Ab
theorem OK_wSzValue (p0 : GValue) (p1 : Int) : FOk Try.prog 70 [(vGValue p0), (.d (.i .i64 p1))] (fun y => (.d (.i .i64 y))) (wSzValue p0 p1) := by
  intro r h
  rw [wSzValue] at h
  refine acalls_of_fn trwSzValue (Nat.le_of_ble_eq_true rfl) (by simp) ?_
  show avc Try.prog acwSzValue (qwSzValue _) ⟨[(0, (vGValue p0)), (1, (.d (.i .i64 p1)))], []⟩
  delta acwSzValue
  refine seq_in ?_
  refine ops_in ?_
  refine sts_ok 2 (s' := ⟨[(4, (.d (.i .i64 0))), (2, (.ptr 2 0)), (0, (vGValue p0)), (1, (.d (.i .i64 p1)))], [(2, [(.d (.i .i64 p0.kind)), (.d (.i .i64 p0.num)), (.d (.s (bs p0.text)))])]⟩) (by kernel_rfl) ?_
  refine nil_in ?_
  refine next_in ?_
  refine seq_in ?_
  refine ops_in ?_
  refine sts_ok 6 (s' := ⟨[(1, (.d (.i .i64 (IntKind.wrap .i64 (p1 - (p0.text.length : Int)))))), (9, (.d (.i .i64 (IntKind.wrap .i64 (p1 - (p0.text.length : Int)))))), (8, (.d (.i .i64 (p0.text.length : Int)))), (7, (.d (.s (bs p0.text)))), (6, (.ptr 2 2)), (5, (.d (.i .i64 p1))), (4, (.d (.i .i64 0))), (2, (.ptr 2 0)), (0, (vGValue p0)), (1, (.d (.i .i64 p1)))], [(2, [(.d (.i .i64 p0.kind)), (.d (.i .i64 p0.num)), (.d (.s (bs p0.text)))])]⟩) (by kernel_rfl) ?_
  refine nil_in ?_
  refine next_in ?_
  refine seq_in ?_
  refine seq_in ?_
  refine ops_in ?_
  refine sts_ok 2 (s' := ⟨[(11, (.d (.b (decide ((IntKind.wrap .i64 (p1 - (p0.text.length : Int))) < 0))))), (10, (.d (.i .i64 (IntKind.wrap .i64 (p1 - (p0.text.length : Int)))))), (1, (.d (.i .i64 (IntKind.wrap .i64 (p1 - (p0.text.length : Int)))))), (9, (.d (.i .i64 (IntKind.wrap .i64 (p1 - (p0.text.length : Int)))))), (8, (.d (.i .i64 (p0.text.length : Int)))), (7, (.d (.s (bs p0.text)))), (6, (.ptr 2 2)), (5, (.d (.i .i64 p1))), (4, (.d (.i .i64 0))), (2, (.ptr 2 0)), (0, (vGValue p0)), (1, (.d (.i .i64 p1)))], [(2, [(.d (.i .i64 p0.kind)), (.d (.i .i64 p0.num)), (.d (.s (bs p0.text)))])]⟩) (by kernel_rfl) ?_
  refine nil_in ?_
  refine next_in ?_
  refine cond_step h (by kernel_rfl) ?_ ?_
  · clear h; intro h
    refine seq_in ?_
    refine ops_in ?_
    refine sts_ok 1 (s' := ⟨[(4, (.d (.i .i64 (-1)))), (11, (.d (.b (decide ((IntKind.wrap .i64 (p1 - (p0.text.length : Int))) < 0))))), (10, (.d (.i .i64 (IntKind.wrap .i64 (p1 - (p0.text.length : Int)))))), (1, (.d (.i .i64 (IntKind.wrap .i64 (p1 - (p0.text.length : Int)))))), (9, (.d (.i .i64 (IntKind.wrap .i64 (p1 - (p0.text.length : Int)))))), (8, (.d (.i .i64 (p0.text.length : Int)))), (7, (.d (.s (bs p0.text)))), (6, (.ptr 2 2)), (5, (.d (.i .i64 p1))), (4, (.d (.i .i64 0))), (2, (.ptr 2 0)), (0, (vGValue p0)), (1, (.d (.i .i64 p1)))], [(2, [(.d (.i .i64 p0.kind)), (.d (.i .i64 p0.num)), (.d (.s (bs p0.text)))])]⟩) (by kernel_rfl) ?_
    refine nil_in ?_
    refine next_in ?_
    refine ret_in ?_
    refine thenK_ret ?_
    have h := Option.some.inj h; subst h
    exact ret1_step (v := (.d (.i .i64 (-1)))) (by kernel_rfl) (by kernel_rfl) (by kernel_rfl)
  · clear h; intro h
    refine skip_in ?_
    refine next_in ?_
    refine seq_in ?_
    refine ops_in ?_
    refine sts_ok 2 (s' := ⟨[(4, (.d (.i .i64 (IntKind.wrap .i64 (p1 - (p0.text.length : Int)))))), (12, (.d (.i .i64 (IntKind.wrap .i64 (p1 - (p0.text.length : Int)))))), (11, (.d (.b (decide ((IntKind.wrap .i64 (p1 - (p0.text.length : Int))) < 0))))), (10, (.d (.i .i64 (IntKind.wrap .i64 (p1 - (p0.text.length : Int)))))), (1, (.d (.i .i64 (IntKind.wrap .i64 (p1 - (p0.text.length : Int)))))), (9, (.d (.i .i64 (IntKind.wrap .i64 (p1 - (p0.text.length : Int)))))), (8, (.d (.i .i64 (p0.text.length : Int)))), (7, (.d (.s (bs p0.text)))), (6, (.ptr 2 2)), (5, (.d (.i .i64 p1))), (4, (.d (.i .i64 0))), (2, (.ptr 2 0)), (0, (vGValue p0)), (1, (.d (.i .i64 p1)))], [(2, [(.d (.i .i64 p0.kind)), (.d (.i .i64 p0.num)), (.d (.s (bs p0.text)))])]⟩) (by kernel_rfl) ?_
    refine nil_in ?_
    refine next_in ?_
    refine ret_in ?_
    have h := Option.some.inj h; subst h
    exact ret1_step (v := (.d (.i .i64 (IntKind.wrap .i64 (p1 - (p0.text.length : Int)))))) (by kernel_rfl) (by kernel_rfl) (by kernel_rfl)
theorem OKs_wSzSource : (∀ (p0 : GSource) (p1 : Int) (r : Int), wSzSource p0 p1 = some r → ACalls Try.prog 118 [(vGSource p0), (.d (.i .i64 p1))] [] fun x _ => x = (fun y => (.d (.i .i64 y))) r) ∧ (∀ (p0 : (List GExpr)) (p1 : Int) (r : Int), wSzExprS p0 p1 = some r → ACalls Try.prog 56 [(.d (.sl 10 (p0.map cGExpr))), (.d (.i .i64 p1))] [] fun x _ => x = (fun y => (.d (.i .i64 y))) r) ∧ (∀ (p0 : (List GExpr)) (x1 : Int) (x5 : Int) (r : Int), wSzExprS_L0 p0 x1 x5 = some r → avc Try.prog acwSzExprS_L0 (qwSzExprS_1 r) (stwSzExprS_L0 p0 x1 x5)) ∧ (∀ (p0 : GExpr) (p1 : Int) (r : Int), wSzExpr p0 p1 = some r → ACalls Try.prog 19 [(vGExpr p0), (.d (.i .i64 p1))] [] fun x _ => x = (fun y => (.d (.i .i64 y))) r) ∧ (∀ (p0 : (List GQuery)) (p1 : Int) (r : Int), wSzQueryS p0 p1 = some r → ACalls Try.prog 71 [(.d (.sl 6 (p0.map cGQuery))), (.d (.i .i64 p1))] [] fun x _ => x = (fun y => (.d (.i .i64 y))) r) ∧ (∀ (p0 : (List GQuery)) (x1 : Int) (x5 : Int) (r : Int), wSzQueryS_L0 p0 x1 x5 = some r → avc Try.prog acwSzQueryS_L0 (qwSzQueryS_1 r) (stwSzQueryS_L0 p0 x1 x5)) ∧ (∀ (p0 : GQuery) (p1 : Int) (r : Int), wSzQuery p0 p1 = some r → ACalls Try.prog 14 [(vGQuery p0), (.d (.i .i64 p1))] [] fun x _ => x = (fun y => (.d (.i .i64 y))) r) ∧ (∀ (p0 : (List GSortKey)) (p1 : Int) (r : Int), wSzSortKeyS p0 p1 = some r → ACalls Try.prog 57 [(.d (.sl 11 (p0.map cGSortKey))), (.d (.i .i64 p1))] [] fun x _ => x = (fun y => (.d (.i .i64 y))) r) ∧ (∀ (p0 : (List GSortKey)) (x1 : Int) (x5 : Int) (r : Int), wSzSortKeyS_L0 p0 x1 x5 = some r → avc Try.prog acwSzSortKeyS_L0 (qwSzSortKeyS_1 r) (stwSzSortKeyS_L0 p0 x1 x5)) ∧ (∀ (p0 : GSortKey) (p1 : Int) (r : Int), wSzSortKey p0 p1 = some r → ACalls Try.prog 119 [(vGSortKey p0), (.d (.i .i64 p1))] [] fun x _ => x = (fun y => (.d (.i .i64 y))) r) ∧ (∀ (p0 : (List GSource)) (p1 : Int) (r : Int), wSzSourceS p0 p1 = some r → ACalls Try.prog 55 [(.d (.sl 3 (p0.map cGSource))), (.d (.i .i64 p1))] [] fun x _ => x = (fun y => (.d (.i .i64 y))) r) ∧ (∀ (p0 : (List GSource)) (x1 : Int) (x5 : Int) (r : Int), wSzSourceS_L0 p0 x1 x5 = some r → avc Try.prog acwSzSourceS_L0 (qwSzSourceS_1 r) (stwSzSourceS_L0 p0 x1 x5)) ∧ (∀ (p0 : (List GItem)) (p1 : Int) (r : Int), wSzItemS p0 p1 = some r → ACalls Try.prog 54 [(.d (.sl 13 (p0.map cGItem))), (.d (.i .i64 p1))] [] fun x _ => x = (fun y => (.d (.i .i64 y))) r) ∧ (∀ (p0 : (List GItem)) (x1 : Int) (x5 : Int) (r : Int), wSzItemS_L0 p0 x1 x5 = some r → avc Try.prog acwSzItemS_L0 (qwSzItemS_1 r) (stwSzItemS_L0 p0 x1 x5)) ∧ (∀ (p0 : GItem) (p1 : Int) (r : Int), wSzItem p0 p1 = some r → ACalls Try.prog 117 [(vGItem p0), (.d (.i .i64 p1))] [] fun x _ => x = (fun y => (.d (.i .i64 y))) r) := by
  refine wSzSource.mutual_partial_correctness (fun p0 p1 r => ACalls Try.prog 118 [(vGSource p0), (.d (.i .i64 p1))] [] fun x _ => x = (fun y => (.d (.i .i64 y))) r) (fun p0 p1 r => ACalls Try.prog 56 [(.d (.sl 10 (p0.map cGExpr))), (.d (.i .i64 p1))] [] fun x _ => x = (fun y => (.d (.i .i64 y))) r) (fun p0 x1 x5 r => avc Try.prog acwSzExprS_L0 (qwSzExprS_1 r) (stwSzExprS_L0 p0 x1 x5)) (fun p0 p1 r => ACalls Try.prog 19 [(vGExpr p0), (.d (.i .i64 p1))] [] fun x _ => x = (fun y => (.d (.i .i64 y))) r) (fun p0 p1 r => ACalls Try.prog 71 [(.d (.sl 6 (p0.map cGQuery))), (.d (.i .i64 p1))] [] fun x _ => x = (fun y => (.d (.i .i64 y))) r) (fun p0 x1 x5 r => avc Try.prog acwSzQueryS_L0 (qwSzQueryS_1 r) (stwSzQueryS_L0 p0 x1 x5)) (fun p0 p1 r => ACalls Try.prog 14 [(vGQuery p0), (.d (.i .i64 p1))] [] fun x _ => x = (fun y => (.d (.i .i64 y))) r) (fun p0 p1 r => ACalls Try.prog 57 [(.d (.sl 11 (p0.map cGSortKey))), (.d (.i .i64 p1))] [] fun x _ => x = (fun y => (.d (.i .i64 y))) r) (fun p0 x1 x5 r => avc Try.prog acwSzSortKeyS_L0 (qwSzSortKeyS_1 r) (stwSzSortKeyS_L0 p0 x1 x5)) (fun p0 p1 r => ACalls Try.prog 119 [(vGSortKey p0), (.d (.i .i64 p1))] [] fun x _ => x = (fun y => (.d (.i .i64 y))) r) (fun p0 p1 r => ACalls Try.prog 55 [(.d (.sl 3 (p0.map cGSource))), (.d (.i .i64 p1))] [] fun x _ => x = (fun y => (.d (.i .i64 y))) r) (fun p0 x1 x5 r => avc Try.prog acwSzSourceS_L0 (qwSzSourceS_1 r) (stwSzSourceS_L0 p0 x1 x5)) (fun p0 p1 r => ACalls Try.prog 54 [(.d (.sl 13 (p0.map cGItem))), (.d (.i .i64 p1))] [] fun x _ => x = (fun y => (.d (.i .i64 y))) r) (fun p0 x1 x5 r => avc Try.prog acwSzItemS_L0 (qwSzItemS_1 r) (stwSzItemS_L0 p0 x1 x5)) (fun p0 p1 r => ACalls Try.prog 117 [(vGItem p0), (.d (.i .i64 p1))] [] fun x _ => x = (fun y => (.d (.i .i64 y))) r) ?_ ?_ ?_ ?_ ?_ ?_ ?_ ?_ ?_ ?_ ?_ ?_ ?_ ?_ ?_
  · intro F_wSzExprS OK_wSzExprS p0 p1 r h
    refine acalls_of_fn trwSzSource (Nat.le_of_ble_eq_true rfl) (by simp) ?_
    show avc Try.prog acwSzSource (qwSzSource _) ⟨[(0, (vGSource p0)), (1, (.d (.i .i64 p1)))], []⟩
    delta acwSzSource
    refine seq_in ?_
    refine ops_in ?_
    refine sts_ok 2 (s' := ⟨[(4, (.d (.i .i64 0))), (2, (.ptr 2 0)), (0, (vGSource p0)), (1, (.d (.i .i64 p1)))], [(2, [(.d (.s (bs p0.table))), (.d (.s (bs p0.as_))), (.d (.sl 10 (p0.on_.map cGExpr)))])]⟩) (by kernel_rfl) ?_
    refine nil_in ?_
    refine next_in ?_
    refine seq_in ?_
    refine ops_in ?_
    refine sts_ok 6 (s' := ⟨[(1, (.d (.i .i64 (IntKind.wrap .i64 (p1 - (p0.table.length : Int)))))), (9, (.d (.i .i64 (IntKind.wrap .i64 (p1 - (p0.table.length : Int)))))), (8, (.d (.i .i64 (p0.table.length : Int)))), (7, (.d (.s (bs p0.table)))), (6, (.ptr 2 0)), (5, (.d (.i .i64 p1))), (4, (.d (.i .i64 0))), (2, (.ptr 2 0)), (0, (vGSource p0)), (1, (.d (.i .i64 p1)))], [(2, [(.d (.s (bs p0.table))), (.d (.s (bs p0.as_))), (.d (.sl 10 (p0.on_.map cGExpr)))])]⟩) (by kernel_rfl) ?_
    refine nil_in ?_
    refine next_in ?_
    refine seq_in ?_
    refine seq_in ?_
    refine ops_in ?_
    refine sts_ok 2 (s' := ⟨[(11, (.d (.b (decide ((IntKind.wrap .i64 (p1 - (p0.table.length : Int))) < 0))))), (10, (.d (.i .i64 (IntKind.wrap .i64 (p1 - (p0.table.length : Int)))))), (1, (.d (.i .i64 (IntKind.wrap .i64 (p1 - (p0.table.length : Int)))))), (9, (.d (.i .i64 (IntKind.wrap .i64 (p1 - (p0.table.length : Int)))))), (8, (.d (.i .i64 (p0.table.length : Int)))), (7, (.d (.s (bs p0.table)))), (6, (.ptr 2 0)), (5, (.d (.i .i64 p1))), (4, (.d (.i .i64 0))), (2, (.ptr 2 0)), (0, (vGSource p0)), (1, (.d (.i .i64 p1)))], [(2, [(.d (.s (bs p0.table))), (.d (.s (bs p0.as_))), (.d (.sl 10 (p0.on_.map cGExpr)))])]⟩) (by kernel_rfl) ?_
    refine nil_in ?_
    refine next_in ?_
    refine cond_step h (by kernel_rfl) ?_ ?_
    · clear h; intro h
      refine seq_in ?_
      refine ops_in ?_
      refine sts_ok 1 (s' := ⟨[(4, (.d (.i .i64 (-1)))), (11, (.d (.b (decide ((IntKind.wrap .i64 (p1 - (p0.table.length : Int))) < 0))))), (10, (.d (.i .i64 (IntKind.wrap .i64 (p1 - (p0.table.length : Int)))))), (1, (.d (.i .i64 (IntKind.wrap .i64 (p1 - (p0.table.length : Int)))))), (9, (.d (.i .i64 (IntKind.wrap .i64 (p1 - (p0.table.length : Int)))))), (8, (.d (.i .i64 (p0.table.length : Int)))), (7, (.d (.s (bs p0.table)))), (6, (.ptr 2 0)), (5, (.d (.i .i64 p1))), (4, (.d (.i .i64 0))), (2, (.ptr 2 0)), (0, (vGSource p0)), (1, (.d (.i .i64 p1)))], [(2, [(.d (.s (bs p0.table))), (.d (.s (bs p0.as_))), (.d (.sl 10 (p0.on_.map cGExpr)))])]⟩) (by kernel_rfl) ?_
      refine nil_in ?_
      refine next_in ?_
      refine ret_in ?_
      refine thenK_ret ?_
      have h := Option.some.inj h; subst h
      exact ret1_step (v := (.d (.i .i64 (-1)))) (by kernel_rfl) (by kernel_rfl) (by kernel_rfl)
    · clear h; intro h
      refine skip_in ?_
      refine next_in ?_
      refine seq_in ?_
      refine ops_in ?_
      refine sts_ok 6 (s' := ⟨[(1, (.d (.i .i64 (IntKind.wrap .i64 ((IntKind.wrap .i64 (p1 - (p0.table.length : Int))) - (p0.as_.length : Int)))))), (16, (.d (.i .i64 (IntKind.wrap .i64 ((IntKind.wrap .i64 (p1 - (p0.table.length : Int))) - (p0.as_.length : Int)))))), (15, (.d (.i .i64 (p0.as_.length : Int)))), (14, (.d (.s (bs p0.as_)))), (13, (.ptr 2 1)), (12, (.d (.i .i64 (IntKind.wrap .i64 (p1 - (p0.table.length : Int)))))), (11, (.d (.b (decide ((IntKind.wrap .i64 (p1 - (p0.table.length : Int))) < 0))))), (10, (.d (.i .i64 (IntKind.wrap .i64 (p1 - (p0.table.length : Int)))))), (1, (.d (.i .i64 (IntKind.wrap .i64 (p1 - (p0.table.length : Int)))))), (9, (.d (.i .i64 (IntKind.wrap .i64 (p1 - (p0.table.length : Int)))))), (8, (.d (.i .i64 (p0.table.length : Int)))), (7, (.d (.s (bs p0.table)))), (6, (.ptr 2 0)), (5, (.d (.i .i64 p1))), (4, (.d (.i .i64 0))), (2, (.ptr 2 0)), (0, (vGSource p0)), (1, (.d (.i .i64 p1)))], [(2, [(.d (.s (bs p0.table))), (.d (.s (bs p0.as_))), (.d (.sl 10 (p0.on_.map cGExpr)))])]⟩) (by kernel_rfl) ?_
      refine nil_in ?_
      refine next_in ?_
      refine seq_in ?_
      refine seq_in ?_
      refine ops_in ?_
      refine sts_ok 2 (s' := ⟨[(18, (.d (.b (decide ((IntKind.wrap .i64 ((IntKind.wrap .i64 (p1 - (p0.table.length : Int))) - (p0.as_.length : Int))) < 0))))), (17, (.d (.i .i64 (IntKind.wrap .i64 ((IntKind.wrap .i64 (p1 - (p0.table.length : Int))) - (p0.as_.length : Int)))))), (1, (.d (.i .i64 (IntKind.wrap .i64 ((IntKind.wrap .i64 (p1 - (p0.table.length : Int))) - (p0.as_.length : Int)))))), (16, (.d (.i .i64 (IntKind.wrap .i64 ((IntKind.wrap .i64 (p1 - (p0.table.length : Int))) - (p0.as_.length : Int)))))), (15, (.d (.i .i64 (p0.as_.length : Int)))), (14, (.d (.s (bs p0.as_)))), (13, (.ptr 2 1)), (12, (.d (.i .i64 (IntKind.wrap .i64 (p1 - (p0.table.length : Int)))))), (11, (.d (.b (decide ((IntKind.wrap .i64 (p1 - (p0.table.length : Int))) < 0))))), (10, (.d (.i .i64 (IntKind.wrap .i64 (p1 - (p0.table.length : Int)))))), (1, (.d (.i .i64 (IntKind.wrap .i64 (p1 - (p0.table.length : Int)))))), (9, (.d (.i .i64 (IntKind.wrap .i64 (p1 - (p0.table.length : Int)))))), (8, (.d (.i .i64 (p0.table.length : Int)))), (7, (.d (.s (bs p0.table)))), (6, (.ptr 2 0)), (5, (.d (.i .i64 p1))), (4, (.d (.i .i64 0))), (2, (.ptr 2 0)), (0, (vGSource p0)), (1, (.d (.i .i64 p1)))], [(2, [(.d (.s (bs p0.table))), (.d (.s (bs p0.as_))), (.d (.sl 10 (p0.on_.map cGExpr)))])]⟩) (by kernel_rfl) ?_
      refine nil_in ?_
      refine next_in ?_
      refine cond_step h (by kernel_rfl) ?_ ?_
      · clear h; intro h
        refine seq_in ?_
        refine ops_in ?_
        refine sts_ok 1 (s' := ⟨[(4, (.d (.i .i64 (-1)))), (18, (.d (.b (decide ((IntKind.wrap .i64 ((IntKind.wrap .i64 (p1 - (p0.table.length : Int))) - (p0.as_.length : Int))) < 0))))), (17, (.d (.i .i64 (IntKind.wrap .i64 ((IntKind.wrap .i64 (p1 - (p0.table.length : Int))) - (p0.as_.length : Int)))))), (1, (.d (.i .i64 (IntKind.wrap .i64 ((IntKind.wrap .i64 (p1 - (p0.table.length : Int))) - (p0.as_.length : Int)))))), (16, (.d (.i .i64 (IntKind.wrap .i64 ((IntKind.wrap .i64 (p1 - (p0.table.length : Int))) - (p0.as_.length : Int)))))), (15, (.d (.i .i64 (p0.as_.length : Int)))), (14, (.d (.s (bs p0.as_)))), (13, (.ptr 2 1)), (12, (.d (.i .i64 (IntKind.wrap .i64 (p1 - (p0.table.length : Int)))))), (11, (.d (.b (decide ((IntKind.wrap .i64 (p1 - (p0.table.length : Int))) < 0))))), (10, (.d (.i .i64 (IntKind.wrap .i64 (p1 - (p0.table.length : Int)))))), (1, (.d (.i .i64 (IntKind.wrap .i64 (p1 - (p0.table.length : Int)))))), (9, (.d (.i .i64 (IntKind.wrap .i64 (p1 - (p0.table.length : Int)))))), (8, (.d (.i .i64 (p0.table.length : Int)))), (7, (.d (.s (bs p0.table)))), (6, (.ptr 2 0)), (5, (.d (.i .i64 p1))), (4, (.d (.i .i64 0))), (2, (.ptr 2 0)), (0, (vGSource p0)), (1, (.d (.i .i64 p1)))], [(2, [(.d (.s (bs p0.table))), (.d (.s (bs p0.as_))), (.d (.sl 10 (p0.on_.map cGExpr)))])]⟩) (by kernel_rfl) ?_
        refine nil_in ?_
        refine next_in ?_
        refine ret_in ?_
        refine thenK_ret ?_
        have h := Option.some.inj h; subst h
        exact ret1_step (v := (.d (.i .i64 (-1)))) (by kernel_rfl) (by kernel_rfl) (by kernel_rfl)
      · clear h; intro h
        refine skip_in ?_
        refine next_in ?_
        refine seq_in ?_
        refine ops_in ?_
        refine sts_ok 3 (s' := ⟨[(21, (.d (.i .i64 (IntKind.wrap .i64 ((IntKind.wrap .i64 (p1 - (p0.table.length : Int))) - (p0.as_.length : Int)))))), (20, (.d (.sl 10 (p0.on_.map cGExpr)))), (19, (.ptr 2 2)), (18, (.d (.b (decide ((IntKind.wrap .i64 ((IntKind.wrap .i64 (p1 - (p0.table.length : Int))) - (p0.as_.length : Int))) < 0))))), (17, (.d (.i .i64 (IntKind.wrap .i64 ((IntKind.wrap .i64 (p1 - (p0.table.length : Int))) - (p0.as_.length : Int)))))), (1, (.d (.i .i64 (IntKind.wrap .i64 ((IntKind.wrap .i64 (p1 - (p0.table.length : Int))) - (p0.as_.length : Int)))))), (16, (.d (.i .i64 (IntKind.wrap .i64 ((IntKind.wrap .i64 (p1 - (p0.table.length : Int))) - (p0.as_.length : Int)))))), (15, (.d (.i .i64 (p0.as_.length : Int)))), (14, (.d (.s (bs p0.as_)))), (13, (.ptr 2 1)), (12, (.d (.i .i64 (IntKind.wrap .i64 (p1 - (p0.table.length : Int)))))), (11, (.d (.b (decide ((IntKind.wrap .i64 (p1 - (p0.table.length : Int))) < 0))))), (10, (.d (.i .i64 (IntKind.wrap .i64 (p1 - (p0.table.length : Int)))))), (1, (.d (.i .i64 (IntKind.wrap .i64 (p1 - (p0.table.length : Int)))))), (9, (.d (.i .i64 (IntKind.wrap .i64 (p1 - (p0.table.length : Int)))))), (8, (.d (.i .i64 (p0.table.length : Int)))), (7, (.d (.s (bs p0.table)))), (6, (.ptr 2 0)), (5, (.d (.i .i64 p1))), (4, (.d (.i .i64 0))), (2, (.ptr 2 0)), (0, (vGSource p0)), (1, (.d (.i .i64 p1)))], [(2, [(.d (.s (bs p0.table))), (.d (.s (bs p0.as_))), (.d (.sl 10 (p0.on_.map cGExpr)))])]⟩) (by kernel_rfl) ?_
        refine call_step (m := F_wSzExprS p0.on_ (IntKind.wrap .i64 ((IntKind.wrap .i64 (p1 - (p0.table.length : Int))) - (p0.as_.length : Int)))) (args := [(.d (.sl 10 (p0.on_.map cGExpr))), (.d (.i .i64 (IntKind.wrap .i64 ((IntKind.wrap .i64 (p1 - (p0.table.length : Int))) - (p0.as_.length : Int)))))]) (v' := (fun y => (.d (.i .i64 y)))) h (OK_wSzExprS p0.on_ (IntKind.wrap .i64 ((IntKind.wrap .i64 (p1 - (p0.table.length : Int))) - (p0.as_.length : Int)))) (by kernel_rfl) (by kernel_rfl) (fun _ => rfl) ?_
        clear h; intro y1 h
        refine sts_ok 1 (s' := ⟨[(1, (.d (.i .i64 y1))), (22, (.d (.i .i64 y1))), (21, (.d (.i .i64 (IntKind.wrap .i64 ((IntKind.wrap .i64 (p1 - (p0.table.length : Int))) - (p0.as_.length : Int)))))), (20, (.d (.sl 10 (p0.on_.map cGExpr)))), (19, (.ptr 2 2)), (18, (.d (.b (decide ((IntKind.wrap .i64 ((IntKind.wrap .i64 (p1 - (p0.table.length : Int))) - (p0.as_.length : Int))) < 0))))), (17, (.d (.i .i64 (IntKind.wrap .i64 ((IntKind.wrap .i64 (p1 - (p0.table.length : Int))) - (p0.as_.length : Int)))))), (1, (.d (.i .i64 (IntKind.wrap .i64 ((IntKind.wrap .i64 (p1 - (p0.table.length : Int))) - (p0.as_.length : Int)))))), (16, (.d (.i .i64 (IntKind.wrap .i64 ((IntKind.wrap .i64 (p1 - (p0.table.length : Int))) - (p0.as_.length : Int)))))), (15, (.d (.i .i64 (p0.as_.length : Int)))), (14, (.d (.s (bs p0.as_)))), (13, (.ptr 2 1)), (12, (.d (.i .i64 (IntKind.wrap .i64 (p1 - (p0.table.length : Int)))))), (11, (.d (.b (decide ((IntKind.wrap .i64 (p1 - (p0.table.length : Int))) < 0))))), (10, (.d (.i .i64 (IntKind.wrap .i64 (p1 - (p0.table.length : Int)))))), (1, (.d (.i .i64 (IntKind.wrap .i64 (p1 - (p0.table.length : Int)))))), (9, (.d (.i .i64 (IntKind.wrap .i64 (p1 - (p0.table.length : Int)))))), (8, (.d (.i .i64 (p0.table.length : Int)))), (7, (.d (.s (bs p0.table)))), (6, (.ptr 2 0)), (5, (.d (.i .i64 p1))), (4, (.d (.i .i64 0))), (2, (.ptr 2 0)), (0, (vGSource p0)), (1, (.d (.i .i64 p1)))], [(2, [(.d (.s (bs p0.table))), (.d (.s (bs p0.as_))), (.d (.sl 10 (p0.on_.map cGExpr)))])]⟩) (by kernel_rfl) ?_
        refine nil_in ?_
        refine next_in ?_
        refine seq_in ?_
        refine seq_in ?_
        refine ops_in ?_
        refine sts_ok 2 (s' := ⟨[(24, (.d (.b (decide (y1 < 0))))), (23, (.d (.i .i64 y1))), (1, (.d (.i .i64 y1))), (22, (.d (.i .i64 y1))), (21, (.d (.i .i64 (IntKind.wrap .i64 ((IntKind.wrap .i64 (p1 - (p0.table.length : Int))) - (p0.as_.length : Int)))))), (20, (.d (.sl 10 (p0.on_.map cGExpr)))), (19, (.ptr 2 2)), (18, (.d (.b (decide ((IntKind.wrap .i64 ((IntKind.wrap .i64 (p1 - (p0.table.length : Int))) - (p0.as_.length : Int))) < 0))))), (17, (.d (.i .i64 (IntKind.wrap .i64 ((IntKind.wrap .i64 (p1 - (p0.table.length : Int))) - (p0.as_.length : Int)))))), (1, (.d (.i .i64 (IntKind.wrap .i64 ((IntKind.wrap .i64 (p1 - (p0.table.length : Int))) - (p0.as_.length : Int)))))), (16, (.d (.i .i64 (IntKind.wrap .i64 ((IntKind.wrap .i64 (p1 - (p0.table.length : Int))) - (p0.as_.length : Int)))))), (15, (.d (.i .i64 (p0.as_.length : Int)))), (14, (.d (.s (bs p0.as_)))), (13, (.ptr 2 1)), (12, (.d (.i .i64 (IntKind.wrap .i64 (p1 - (p0.table.length : Int)))))), (11, (.d (.b (decide ((IntKind.wrap .i64 (p1 - (p0.table.length : Int))) < 0))))), (10, (.d (.i .i64 (IntKind.wrap .i64 (p1 - (p0.table.length : Int)))))), (1, (.d (.i .i64 (IntKind.wrap .i64 (p1 - (p0.table.length : Int)))))), (9, (.d (.i .i64 (IntKind.wrap .i64 (p1 - (p0.table.length : Int)))))), (8, (.d (.i .i64 (p0.table.length : Int)))), (7, (.d (.s (bs p0.table)))), (6, (.ptr 2 0)), (5, (.d (.i .i64 p1))), (4, (.d (.i .i64 0))), (2, (.ptr 2 0)), (0, (vGSource p0)), (1, (.d (.i .i64 p1)))], [(2, [(.d (.s (bs p0.table))), (.d (.s (bs p0.as_))), (.d (.sl 10 (p0.on_.map cGExpr)))])]⟩) (by kernel_rfl) ?_
        refine nil_in ?_
        refine next_in ?_
        refine cond_step h (by kernel_rfl) ?_ ?_
        · clear h; intro h
          refine seq_in ?_
          refine ops_in ?_
          refine sts_ok 1 (s' := ⟨[(4, (.d (.i .i64 (-1)))), (24, (.d (.b (decide (y1 < 0))))), (23, (.d (.i .i64 y1))), (1, (.d (.i .i64 y1))), (22, (.d (.i .i64 y1))), (21, (.d (.i .i64 (IntKind.wrap .i64 ((IntKind.wrap .i64 (p1 - (p0.table.length : Int))) - (p0.as_.length : Int)))))), (20, (.d (.sl 10 (p0.on_.map cGExpr)))), (19, (.ptr 2 2)), (18, (.d (.b (decide ((IntKind.wrap .i64 ((IntKind.wrap .i64 (p1 - (p0.table.length : Int))) - (p0.as_.length : Int))) < 0))))), (17, (.d (.i .i64 (IntKind.wrap .i64 ((IntKind.wrap .i64 (p1 - (p0.table.length : Int))) - (p0.as_.length : Int)))))), (1, (.d (.i .i64 (IntKind.wrap .i64 ((IntKind.wrap .i64 (p1 - (p0.table.length : Int))) - (p0.as_.length : Int)))))), (16, (.d (.i .i64 (IntKind.wrap .i64 ((IntKind.wrap .i64 (p1 - (p0.table.length : Int))) - (p0.as_.length : Int)))))), (15, (.d (.i .i64 (p0.as_.length : Int)))), (14, (.d (.s (bs p0.as_)))), (13, (.ptr 2 1)), (12, (.d (.i .i64 (IntKind.wrap .i64 (p1 - (p0.table.length : Int)))))), (11, (.d (.b (decide ((IntKind.wrap .i64 (p1 - (p0.table.length : Int))) < 0))))), (10, (.d (.i .i64 (IntKind.wrap .i64 (p1 - (p0.table.length : Int)))))), (1, (.d (.i .i64 (IntKind.wrap .i64 (p1 - (p0.table.length : Int)))))), (9, (.d (.i .i64 (IntKind.wrap .i64 (p1 - (p0.table.length : Int)))))), (8, (.d (.i .i64 (p0.table.length : Int)))), (7, (.d (.s (bs p0.table)))), (6, (.ptr 2 0)), (5, (.d (.i .i64 p1))), (4, (.d (.i .i64 0))), (2, (.ptr 2 0)), (0, (vGSource p0)), (1, (.d (.i .i64 p1)))], [(2, [(.d (.s (bs p0.table))), (.d (.s (bs p0.as_))), (.d (.sl 10 (p0.on_.map cGExpr)))])]⟩) (by kernel_rfl) ?_
          refine nil_in ?_
          refine next_in ?_
          refine ret_in ?_
          refine thenK_ret ?_
          have h := Option.some.inj h; subst h
          exact ret1_step (v := (.d (.i .i64 (-1)))) (by kernel_rfl) (by kernel_rfl) (by kernel_rfl)
        · clear h; intro h
          refine skip_in ?_
          refine next_in ?_
          refine seq_in ?_
          refine ops_in ?_
          refine sts_ok 2 (s' := ⟨[(4, (.d (.i .i64 y1))), (25, (.d (.i .i64 y1))), (24, (.d (.b (decide (y1 < 0))))), (23, (.d (.i .i64 y1))), (1, (.d (.i .i64 y1))), (22, (.d (.i .i64 y1))), (21, (.d (.i .i64 (IntKind.wrap .i64 ((IntKind.wrap .i64 (p1 - (p0.table.length : Int))) - (p0.as_.length : Int)))))), (20, (.d (.sl 10 (p0.on_.map cGExpr)))), (19, (.ptr 2 2)), (18, (.d (.b (decide ((IntKind.wrap .i64 ((IntKind.wrap .i64 (p1 - (p0.table.length : Int))) - (p0.as_.length : Int))) < 0))))), (17, (.d (.i .i64 (IntKind.wrap .i64 ((IntKind.wrap .i64 (p1 - (p0.table.length : Int))) - (p0.as_.length : Int)))))), (1, (.d (.i .i64 (IntKind.wrap .i64 ((IntKind.wrap .i64 (p1 - (p0.table.length : Int))) - (p0.as_.length : Int)))))), (16, (.d (.i .i64 (IntKind.wrap .i64 ((IntKind.wrap .i64 (p1 - (p0.table.length : Int))) - (p0.as_.length : Int)))))), (15, (.d (.i .i64 (p0.as_.length : Int)))), (14, (.d (.s (bs p0.as_)))), (13, (.ptr 2 1)), (12, (.d (.i .i64 (IntKind.wrap .i64 (p1 - (p0.table.length : Int)))))), (11, (.d (.b (decide ((IntKind.wrap .i64 (p1 - (p0.table.length : Int))) < 0))))), (10, (.d (.i .i64 (IntKind.wrap .i64 (p1 - (p0.table.length : Int)))))), (1, (.d (.i .i64 (IntKind.wrap .i64 (p1 - (p0.table.length : Int)))))), (9, (.d (.i .i64 (IntKind.wrap .i64 (p1 - (p0.table.length : Int)))))), (8, (.d (.i .i64 (p0.table.length : Int)))), (7, (.d (.s (bs p0.table)))), (6, (.ptr 2 0)), (5, (.d (.i .i64 p1))), (4, (.d (.i .i64 0))), (2, (.ptr 2 0)), (0, (vGSource p0)), (1, (.d (.i .i64 p1)))], [(2, [(.d (.s (bs p0.table))), (.d (.s (bs p0.as_))), (.d (.sl 10 (p0.on_.map cGExpr)))])]⟩) (by kernel_rfl) ?_
          refine nil_in ?_
          refine next_in ?_
          refine ret_in ?_
          have h := Option.some.inj h; subst h
          exact ret1_step (v := (.d (.i .i64 y1))) (by kernel_rfl) (by kernel_rfl) (by kernel_rfl)
  · intro F_wSzExprS_L0 OK_wSzExprS_L0 p0 p1 r h
    refine acalls_of_fn trwSzExprS (Nat.le_of_ble_eq_true rfl) (by simp) ?_
    show avc Try.prog acwSzExprS (qwSzExprS _) ⟨[(0, (.d (.sl 10 (p0.map cGExpr)))), (1, (.d (.i .i64 p1)))], []⟩
    delta acwSzExprS
    refine seq_in ?_
    refine ops_in ?_
    refine sts_ok 1 (s' := ⟨[(4, (.d (.i .i64 0))), (0, (.d (.sl 10 (p0.map cGExpr)))), (1, (.d (.i .i64 p1)))], []⟩) (by kernel_rfl) ?_
    refine nil_in ?_
    refine next_in ?_
    refine seq_in ?_
    refine ops_in ?_
    refine sts_ok 2 (s' := ⟨[(7, (.d (.sl 10 (p0.map cGExpr)))), (6, (.d (.i .i64 p1))), (4, (.d (.i .i64 0))), (0, (.d (.sl 10 (p0.map cGExpr)))), (1, (.d (.i .i64 p1)))], []⟩) (by kernel_rfl) ?_
    refine p_step (v' := (.d (.i .i64 (p0.length : Int)))) rfl rfl (vop_len (sz := 10) (l := p0) (f := cGExpr) (by kernel_rfl) (by kernel_rfl)) ?_
    refine sts_ok 2 (s' := ⟨[(1, (.d (.i .i64 (IntKind.wrap .i64 (p1 - (p0.length : Int)))))), (9, (.d (.i .i64 (IntKind.wrap .i64 (p1 - (p0.length : Int)))))), (8, (.d (.i .i64 (p0.length : Int)))), (7, (.d (.sl 10 (p0.map cGExpr)))), (6, (.d (.i .i64 p1))), (4, (.d (.i .i64 0))), (0, (.d (.sl 10 (p0.map cGExpr)))), (1, (.d (.i .i64 p1)))], []⟩) (by kernel_rfl) ?_
    refine nil_in ?_
    refine next_in ?_
    refine seq_in ?_
    refine seq_in ?_
    refine ops_in ?_
    refine sts_ok 2 (s' := ⟨[(11, (.d (.b (decide ((IntKind.wrap .i64 (p1 - (p0.length : Int))) < 0))))), (10, (.d (.i .i64 (IntKind.wrap .i64 (p1 - (p0.length : Int)))))), (1, (.d (.i .i64 (IntKind.wrap .i64 (p1 - (p0.length : Int)))))), (9, (.d (.i .i64 (IntKind.wrap .i64 (p1 - (p0.length : Int)))))), (8, (.d (.i .i64 (p0.length : Int)))), (7, (.d (.sl 10 (p0.map cGExpr)))), (6, (.d (.i .i64 p1))), (4, (.d (.i .i64 0))), (0, (.d (.sl 10 (p0.map cGExpr)))), (1, (.d (.i .i64 p1)))], []⟩) (by kernel_rfl) ?_
    refine nil_in ?_
    refine next_in ?_
    refine cond_step h (by kernel_rfl) ?_ ?_
    · clear h; intro h
      refine seq_in ?_
      refine ops_in ?_
      refine sts_ok 1 (s' := ⟨[(4, (.d (.i .i64 (-1)))), (11, (.d (.b (decide ((IntKind.wrap .i64 (p1 - (p0.length : Int))) < 0))))), (10, (.d (.i .i64 (IntKind.wrap .i64 (p1 - (p0.length : Int)))))), (1, (.d (.i .i64 (IntKind.wrap .i64 (p1 - (p0.length : Int)))))), (9, (.d (.i .i64 (IntKind.wrap .i64 (p1 - (p0.length : Int)))))), (8, (.d (.i .i64 (p0.length : Int)))), (7, (.d (.sl 10 (p0.map cGExpr)))), (6, (.d (.i .i64 p1))), (4, (.d (.i .i64 0))), (0, (.d (.sl 10 (p0.map cGExpr)))), (1, (.d (.i .i64 p1)))], []⟩) (by kernel_rfl) ?_
      refine nil_in ?_
      refine next_in ?_
      refine ret_in ?_
      refine thenK_ret ?_
      have h := Option.some.inj h; subst h
      exact ret1_step (v := (.d (.i .i64 (-1)))) (by kernel_rfl) (by kernel_rfl) (by kernel_rfl)
    · clear h; intro h
      refine skip_in ?_
      refine next_in ?_
      refine seq_in ?_
      refine seq_in ?_
      refine ops_in ?_
      refine sts_ok 1 (s' := ⟨[(5, (.d (.i .i64 0))), (11, (.d (.b (decide ((IntKind.wrap .i64 (p1 - (p0.length : Int))) < 0))))), (10, (.d (.i .i64 (IntKind.wrap .i64 (p1 - (p0.length : Int)))))), (1, (.d (.i .i64 (IntKind.wrap .i64 (p1 - (p0.length : Int)))))), (9, (.d (.i .i64 (IntKind.wrap .i64 (p1 - (p0.length : Int)))))), (8, (.d (.i .i64 (p0.length : Int)))), (7, (.d (.sl 10 (p0.map cGExpr)))), (6, (.d (.i .i64 p1))), (4, (.d (.i .i64 0))), (0, (.d (.sl 10 (p0.map cGExpr)))), (1, (.d (.i .i64 p1)))], []⟩) (by kernel_rfl) ?_
      refine nil_in ?_
      refine next_in ?_
      refine block_in ?_
      exact loop_go (s' := stwSzExprS_L0 p0 (IntKind.wrap .i64 (p1 - (p0.length : Int))) 0) (wk_ren [] (by kernel_rfl) (er_cons (vr_same (by kernel_rfl) (by kernel_rfl)) (er_cons (vr_same (by kernel_rfl) (by kernel_rfl)) (er_cons (vr_same (by kernel_rfl) (by kernel_rfl)) (er_nil)))) (br_nil)) (OK_wSzExprS_L0 p0 (IntKind.wrap .i64 (p1 - (p0.length : Int))) 0 _ h)
  · intro F_wSzExprS_L0 F_wSzExpr OK_wSzExprS_L0 OK_wSzExpr p0 x1 x5 r h
    delta acwSzExprS_L0
    refine loop_unroll ?_
    refine seq_in ?_
    refine seq_in ?_
    refine ops_in ?_
    refine sts_ok 2 (s' := ⟨(13, (.d (.sl 10 (p0.map cGExpr)))) :: (12, (.d (.i .i64 x5))) :: (stwSzExprS_L0 p0 x1 x5).env, (stwSzExprS_L0 p0 x1 x5).bx⟩) (by kernel_rfl) ?_
    refine p_step (v' := (.d (.i .i64 (p0.length : Int)))) rfl rfl (vop_len (sz := 10) (l := p0) (f := cGExpr) (by kernel_rfl) (by kernel_rfl)) ?_
    refine sts_ok 1 (s' := ⟨(15, (.d (.b (decide (x5 < (p0.length : Int)))))) :: (14, (.d (.i .i64 (p0.length : Int)))) :: (13, (.d (.sl 10 (p0.map cGExpr)))) :: (12, (.d (.i .i64 x5))) :: (stwSzExprS_L0 p0 x1 x5).env, (stwSzExprS_L0 p0 x1 x5).bx⟩) (by kernel_rfl) ?_
    refine nil_in ?_
    refine next_in ?_
    refine cond_step h (by kernel_rfl) ?_ ?_
    · clear h; intro h
      refine skip_in ?_
      refine next_in ?_
      refine seq_in ?_
      refine block_in ?_
      refine seq_in ?_
      refine ops_in ?_
      refine sts_ok 2 (s' := ⟨(19, (.d (.i .i64 x5))) :: (18, (.d (.sl 10 (p0.map cGExpr)))) :: (15, (.d (.b (decide (x5 < (p0.length : Int)))))) :: (14, (.d (.i .i64 (p0.length : Int)))) :: (13, (.d (.sl 10 (p0.map cGExpr)))) :: (12, (.d (.i .i64 x5))) :: (stwSzExprS_L0 p0 x1 x5).env, (stwSzExprS_L0 p0 x1 x5).bx⟩) (by kernel_rfl) ?_
      refine v_step (m := idx p0 x5) (v' := fun y => (.rp [(.i .i64 y.kind), (.i .i64 y.op), (.b y.not_), (.i .i64 y.value.kind), (.i .i64 y.value.num), (.s (bs y.value.text)), (.s (bs y.qual)), (.s (bs y.name)), (.sl 10 (y.kids.map cGExpr)), (.sl 6 (y.sub.map cGQuery))])) h rfl rfl (fun y hy => vop_ia (l := p0) (f := cGExpr) (g := oGExpr) (k := .i64) hy cGExpr_eq (by kernel_rfl) (by kernel_rfl) (by kernel_rfl)) ?_
      clear h; intro y1 h
      refine sts_ok 2 (s' := ⟨(22, (.d (.i .i64 x1))) :: (21, (vGExpr y1)) :: (20, (.rp [(.i .i64 y1.kind), (.i .i64 y1.op), (.b y1.not_), (.i .i64 y1.value.kind), (.i .i64 y1.value.num), (.s (bs y1.value.text)), (.s (bs y1.qual)), (.s (bs y1.name)), (.sl 10 (y1.kids.map cGExpr)), (.sl 6 (y1.sub.map cGQuery))])) :: (19, (.d (.i .i64 x5))) :: (18, (.d (.sl 10 (p0.map cGExpr)))) :: (15, (.d (.b (decide (x5 < (p0.length : Int)))))) :: (14, (.d (.i .i64 (p0.length : Int)))) :: (13, (.d (.sl 10 (p0.map cGExpr)))) :: (12, (.d (.i .i64 x5))) :: (stwSzExprS_L0 p0 x1 x5).env, (stwSzExprS_L0 p0 x1 x5).bx⟩) (by kernel_rfl) ?_
      refine call_step (m := F_wSzExpr y1 x1) (args := [(vGExpr y1), (.d (.i .i64 x1))]) (v' := (fun y => (.d (.i .i64 y)))) h (OK_wSzExpr y1 x1) (by kernel_rfl) (by kernel_rfl) (fun _ => rfl) ?_
      clear h; intro y2 h
      refine sts_ok 1 (s' := ⟨(1, (.d (.i .i64 y2))) :: (23, (.d (.i .i64 y2))) :: (22, (.d (.i .i64 x1))) :: (21, (vGExpr y1)) :: (20, (.rp [(.i .i64 y1.kind), (.i .i64 y1.op), (.b y1.not_), (.i .i64 y1.value.kind), (.i .i64 y1.value.num), (.s (bs y1.value.text)), (.s (bs y1.qual)), (.s (bs y1.name)), (.sl 10 (y1.kids.map cGExpr)), (.sl 6 (y1.sub.map cGQuery))])) :: (19, (.d (.i .i64 x5))) :: (18, (.d (.sl 10 (p0.map cGExpr)))) :: (15, (.d (.b (decide (x5 < (p0.length : Int)))))) :: (14, (.d (.i .i64 (p0.length : Int)))) :: (13, (.d (.sl 10 (p0.map cGExpr)))) :: (12, (.d (.i .i64 x5))) :: (stwSzExprS_L0 p0 x1 x5).env, (stwSzExprS_L0 p0 x1 x5).bx⟩) (by kernel_rfl) ?_
      refine nil_in ?_
      refine next_in ?_
      refine seq_in ?_
      refine ops_in ?_
      refine sts_ok 2 (s' := ⟨(25, (.d (.b (decide (y2 < 0))))) :: (24, (.d (.i .i64 y2))) :: (1, (.d (.i .i64 y2))) :: (23, (.d (.i .i64 y2))) :: (22, (.d (.i .i64 x1))) :: (21, (vGExpr y1)) :: (20, (.rp [(.i .i64 y1.kind), (.i .i64 y1.op), (.b y1.not_), (.i .i64 y1.value.kind), (.i .i64 y1.value.num), (.s (bs y1.value.text)), (.s (bs y1.qual)), (.s (bs y1.name)), (.sl 10 (y1.kids.map cGExpr)), (.sl 6 (y1.sub.map cGQuery))])) :: (19, (.d (.i .i64 x5))) :: (18, (.d (.sl 10 (p0.map cGExpr)))) :: (15, (.d (.b (decide (x5 < (p0.length : Int)))))) :: (14, (.d (.i .i64 (p0.length : Int)))) :: (13, (.d (.sl 10 (p0.map cGExpr)))) :: (12, (.d (.i .i64 x5))) :: (stwSzExprS_L0 p0 x1 x5).env, (stwSzExprS_L0 p0 x1 x5).bx⟩) (by kernel_rfl) ?_
      refine nil_in ?_
      refine next_in ?_
      refine cond_step h (by kernel_rfl) ?_ ?_
      · clear h; intro h
        refine seq_in ?_
        refine ops_in ?_
        refine sts_ok 1 (s' := ⟨(4, (.d (.i .i64 (-1)))) :: (25, (.d (.b (decide (y2 < 0))))) :: (24, (.d (.i .i64 y2))) :: (1, (.d (.i .i64 y2))) :: (23, (.d (.i .i64 y2))) :: (22, (.d (.i .i64 x1))) :: (21, (vGExpr y1)) :: (20, (.rp [(.i .i64 y1.kind), (.i .i64 y1.op), (.b y1.not_), (.i .i64 y1.value.kind), (.i .i64 y1.value.num), (.s (bs y1.value.text)), (.s (bs y1.qual)), (.s (bs y1.name)), (.sl 10 (y1.kids.map cGExpr)), (.sl 6 (y1.sub.map cGQuery))])) :: (19, (.d (.i .i64 x5))) :: (18, (.d (.sl 10 (p0.map cGExpr)))) :: (15, (.d (.b (decide (x5 < (p0.length : Int)))))) :: (14, (.d (.i .i64 (p0.length : Int)))) :: (13, (.d (.sl 10 (p0.map cGExpr)))) :: (12, (.d (.i .i64 x5))) :: (stwSzExprS_L0 p0 x1 x5).env, (stwSzExprS_L0 p0 x1 x5).bx⟩) (by kernel_rfl) ?_
        refine nil_in ?_
        refine next_in ?_
        refine ret_in ?_
        refine blockK_ret ?_
        refine thenK_ret ?_
        refine thenK_ret ?_
        refine blockK_ret ?_
        refine thenK_ret ?_
        have h := Option.some.inj h; subst h
        exact ret1_step (v := (.d (.i .i64 (-1)))) (by kernel_rfl) (by kernel_rfl) (by kernel_rfl)
      · clear h; intro h
        refine skip_in ?_
        refine blockK_norm ?_
        refine next_in ?_
        refine ops_in ?_
        refine sts_ok 3 (s' := ⟨(5, (.d (.i .i64 (IntKind.wrap .i64 (x5 + 1))))) :: (17, (.d (.i .i64 (IntKind.wrap .i64 (x5 + 1))))) :: (16, (.d (.i .i64 x5))) :: (25, (.d (.b (decide (y2 < 0))))) :: (24, (.d (.i .i64 y2))) :: (1, (.d (.i .i64 y2))) :: (23, (.d (.i .i64 y2))) :: (22, (.d (.i .i64 x1))) :: (21, (vGExpr y1)) :: (20, (.rp [(.i .i64 y1.kind), (.i .i64 y1.op), (.b y1.not_), (.i .i64 y1.value.kind), (.i .i64 y1.value.num), (.s (bs y1.value.text)), (.s (bs y1.qual)), (.s (bs y1.name)), (.sl 10 (y1.kids.map cGExpr)), (.sl 6 (y1.sub.map cGQuery))])) :: (19, (.d (.i .i64 x5))) :: (18, (.d (.sl 10 (p0.map cGExpr)))) :: (15, (.d (.b (decide (x5 < (p0.length : Int)))))) :: (14, (.d (.i .i64 (p0.length : Int)))) :: (13, (.d (.sl 10 (p0.map cGExpr)))) :: (12, (.d (.i .i64 x5))) :: (stwSzExprS_L0 p0 x1 x5).env, (stwSzExprS_L0 p0 x1 x5).bx⟩) (by kernel_rfl) ?_
        refine nil_in ?_
        exact loop_back (s' := stwSzExprS_L0 p0 y2 (IntKind.wrap .i64 (x5 + 1))) (wk_ren [] (by kernel_rfl) (er_cons (vr_same (by kernel_rfl) (by kernel_rfl)) (er_cons (vr_same (by kernel_rfl) (by kernel_rfl)) (er_cons (vr_same (by kernel_rfl) (by kernel_rfl)) (er_nil)))) (br_nil)) (OK_wSzExprS_L0 p0 y2 (IntKind.wrap .i64 (x5 + 1)) _ h)
    · clear h; intro h
      refine exit_in ?_
      refine thenK_exit ?_
      refine thenK_exit ?_
      refine blockK_here ?_
      refine next_in ?_
      refine seq_in ?_
      refine ops_in ?_
      refine sts_ok 2 (s' := ⟨(4, (.d (.i .i64 x1))) :: (26, (.d (.i .i64 x1))) :: (15, (.d (.b (decide (x5 < (p0.length : Int)))))) :: (14, (.d (.i .i64 (p0.length : Int)))) :: (13, (.d (.sl 10 (p0.map cGExpr)))) :: (12, (.d (.i .i64 x5))) :: (stwSzExprS_L0 p0 x1 x5).env, (stwSzExprS_L0 p0 x1 x5).bx⟩) (by kernel_rfl) ?_
      refine nil_in ?_
      refine next_in ?_
      refine ret_in ?_
      have h := Option.some.inj h; subst h
      exact ret1_step (v := (.d (.i .i64 x1))) (by kernel_rfl) (by kernel_rfl) (by kernel_rfl)
  · intro F_wSzExprS F_wSzQueryS OK_wSzExprS OK_wSzQueryS p0 p1 r h
    refine acalls_of_fn trwSzExpr (Nat.le_of_ble_eq_true rfl) (by simp) ?_
    show avc Try.prog acwSzExpr (qwSzExpr _) ⟨[(0, (vGExpr p0)), (1, (.d (.i .i64 p1)))], []⟩
    delta acwSzExpr
    refine seq_in ?_
    refine ops_in ?_
    refine sts_ok 2 (s' := ⟨[(4, (.d (.i .i64 0))), (2, (.ptr 2 0)), (0, (vGExpr p0)), (1, (.d (.i .i64 p1)))], [(2, [(.d (.i .i64 p0.kind)), (.d (.i .i64 p0.op)), (.d (.b p0.not_)), (.d (.i .i64 p0.value.kind)), (.d (.i .i64 p0.value.num)), (.d (.s (bs p0.value.text))), (.d (.s (bs p0.qual))), (.d (.s (bs p0.name))), (.d (.sl 10 (p0.kids.map cGExpr))), (.d (.sl 6 (p0.sub.map cGQuery)))])]⟩) (by kernel_rfl) ?_
    refine nil_in ?_
    refine next_in ?_
    refine seq_in ?_
    refine ops_in ?_
    refine sts_ok 3 (s' := ⟨[(7, (.d (.i .i64 p1))), (6, (vGValue p0.value)), (5, (.ptr 2 3)), (4, (.d (.i .i64 0))), (2, (.ptr 2 0)), (0, (vGExpr p0)), (1, (.d (.i .i64 p1)))], [(2, [(.d (.i .i64 p0.kind)), (.d (.i .i64 p0.op)), (.d (.b p0.not_)), (.d (.i .i64 p0.value.kind)), (.d (.i .i64 p0.value.num)), (.d (.s (bs p0.value.text))), (.d (.s (bs p0.qual))), (.d (.s (bs p0.name))), (.d (.sl 10 (p0.kids.map cGExpr))), (.d (.sl 6 (p0.sub.map cGQuery)))])]⟩) (by kernel_rfl) ?_
    refine call_step (m := wSzValue p0.value p1) (args := [(vGValue p0.value), (.d (.i .i64 p1))]) (v' := (fun y => (.d (.i .i64 y)))) h (OK_wSzValue p0.value p1) (by kernel_rfl) (by kernel_rfl) (fun _ => rfl) ?_
    clear h; intro y1 h
    refine sts_ok 1 (s' := ⟨[(1, (.d (.i .i64 y1))), (8, (.d (.i .i64 y1))), (7, (.d (.i .i64 p1))), (6, (vGValue p0.value)), (5, (.ptr 2 3)), (4, (.d (.i .i64 0))), (2, (.ptr 2 0)), (0, (vGExpr p0)), (1, (.d (.i .i64 p1)))], [(2, [(.d (.i .i64 p0.kind)), (.d (.i .i64 p0.op)), (.d (.b p0.not_)), (.d (.i .i64 p0.value.kind)), (.d (.i .i64 p0.value.num)), (.d (.s (bs p0.value.text))), (.d (.s (bs p0.qual))), (.d (.s (bs p0.name))), (.d (.sl 10 (p0.kids.map cGExpr))), (.d (.sl 6 (p0.sub.map cGQuery)))])]⟩) (by kernel_rfl) ?_
    refine nil_in ?_
    refine next_in ?_
    refine seq_in ?_
    refine seq_in ?_
    refine ops_in ?_
    refine sts_ok 2 (s' := ⟨[(10, (.d (.b (decide (y1 < 0))))), (9, (.d (.i .i64 y1))), (1, (.d (.i .i64 y1))), (8, (.d (.i .i64 y1))), (7, (.d (.i .i64 p1))), (6, (vGValue p0.value)), (5, (.ptr 2 3)), (4, (.d (.i .i64 0))), (2, (.ptr 2 0)), (0, (vGExpr p0)), (1, (.d (.i .i64 p1)))], [(2, [(.d (.i .i64 p0.kind)), (.d (.i .i64 p0.op)), (.d (.b p0.not_)), (.d (.i .i64 p0.value.kind)), (.d (.i .i64 p0.value.num)), (.d (.s (bs p0.value.text))), (.d (.s (bs p0.qual))), (.d (.s (bs p0.name))), (.d (.sl 10 (p0.kids.map cGExpr))), (.d (.sl 6 (p0.sub.map cGQuery)))])]⟩) (by kernel_rfl) ?_
    refine nil_in ?_
    refine next_in ?_
    refine cond_step h (by kernel_rfl) ?_ ?_
    · clear h; intro h
      refine seq_in ?_
      refine ops_in ?_
      refine sts_ok 1 (s' := ⟨[(4, (.d (.i .i64 (-1)))), (10, (.d (.b (decide (y1 < 0))))), (9, (.d (.i .i64 y1))), (1, (.d (.i .i64 y1))), (8, (.d (.i .i64 y1))), (7, (.d (.i .i64 p1))), (6, (vGValue p0.value)), (5, (.ptr 2 3)), (4, (.d (.i .i64 0))), (2, (.ptr 2 0)), (0, (vGExpr p0)), (1, (.d (.i .i64 p1)))], [(2, [(.d (.i .i64 p0.kind)), (.d (.i .i64 p0.op)), (.d (.b p0.not_)), (.d (.i .i64 p0.value.kind)), (.d (.i .i64 p0.value.num)), (.d (.s (bs p0.value.text))), (.d (.s (bs p0.qual))), (.d (.s (bs p0.name))), (.d (.sl 10 (p0.kids.map cGExpr))), (.d (.sl 6 (p0.sub.map cGQuery)))])]⟩) (by kernel_rfl) ?_
      refine nil_in ?_
      refine next_in ?_
      refine ret_in ?_
      refine thenK_ret ?_
      have h := Option.some.inj h; subst h
      exact ret1_step (v := (.d (.i .i64 (-1)))) (by kernel_rfl) (by kernel_rfl) (by kernel_rfl)
    · clear h; intro h
      refine skip_in ?_
      refine next_in ?_
      refine seq_in ?_
      refine ops_in ?_
      refine sts_ok 6 (s' := ⟨[(1, (.d (.i .i64 (IntKind.wrap .i64 (y1 - (p0.qual.length : Int)))))), (15, (.d (.i .i64 (IntKind.wrap .i64 (y1 - (p0.qual.length : Int)))))), (14, (.d (.i .i64 (p0.qual.length : Int)))), (13, (.d (.s (bs p0.qual)))), (12, (.ptr 2 6)), (11, (.d (.i .i64 y1))), (10, (.d (.b (decide (y1 < 0))))), (9, (.d (.i .i64 y1))), (1, (.d (.i .i64 y1))), (8, (.d (.i .i64 y1))), (7, (.d (.i .i64 p1))), (6, (vGValue p0.value)), (5, (.ptr 2 3)), (4, (.d (.i .i64 0))), (2, (.ptr 2 0)), (0, (vGExpr p0)), (1, (.d (.i .i64 p1)))], [(2, [(.d (.i .i64 p0.kind)), (.d (.i .i64 p0.op)), (.d (.b p0.not_)), (.d (.i .i64 p0.value.kind)), (.d (.i .i64 p0.value.num)), (.d (.s (bs p0.value.text))), (.d (.s (bs p0.qual))), (.d (.s (bs p0.name))), (.d (.sl 10 (p0.kids.map cGExpr))), (.d (.sl 6 (p0.sub.map cGQuery)))])]⟩) (by kernel_rfl) ?_
      refine nil_in ?_
      refine next_in ?_
      refine seq_in ?_
      refine seq_in ?_
      refine ops_in ?_
      refine sts_ok 2 (s' := ⟨[(17, (.d (.b (decide ((IntKind.wrap .i64 (y1 - (p0.qual.length : Int))) < 0))))), (16, (.d (.i .i64 (IntKind.wrap .i64 (y1 - (p0.qual.length : Int)))))), (1, (.d (.i .i64 (IntKind.wrap .i64 (y1 - (p0.qual.length : Int)))))), (15, (.d (.i .i64 (IntKind.wrap .i64 (y1 - (p0.qual.length : Int)))))), (14, (.d (.i .i64 (p0.qual.length : Int)))), (13, (.d (.s (bs p0.qual)))), (12, (.ptr 2 6)), (11, (.d (.i .i64 y1))), (10, (.d (.b (decide (y1 < 0))))), (9, (.d (.i .i64 y1))), (1, (.d (.i .i64 y1))), (8, (.d (.i .i64 y1))), (7, (.d (.i .i64 p1))), (6, (vGValue p0.value)), (5, (.ptr 2 3)), (4, (.d (.i .i64 0))), (2, (.ptr 2 0)), (0, (vGExpr p0)), (1, (.d (.i .i64 p1)))], [(2, [(.d (.i .i64 p0.kind)), (.d (.i .i64 p0.op)), (.d (.b p0.not_)), (.d (.i .i64 p0.value.kind)), (.d (.i .i64 p0.value.num)), (.d (.s (bs p0.value.text))), (.d (.s (bs p0.qual))), (.d (.s (bs p0.name))), (.d (.sl 10 (p0.kids.map cGExpr))), (.d (.sl 6 (p0.sub.map cGQuery)))])]⟩) (by kernel_rfl) ?_
      refine nil_in ?_
      refine next_in ?_
      refine cond_step h (by kernel_rfl) ?_ ?_
      · clear h; intro h
        refine seq_in ?_
        refine ops_in ?_
        refine sts_ok 1 (s' := ⟨[(4, (.d (.i .i64 (-1)))), (17, (.d (.b (decide ((IntKind.wrap .i64 (y1 - (p0.qual.length : Int))) < 0))))), (16, (.d (.i .i64 (IntKind.wrap .i64 (y1 - (p0.qual.length : Int)))))), (1, (.d (.i .i64 (IntKind.wrap .i64 (y1 - (p0.qual.length : Int)))))), (15, (.d (.i .i64 (IntKind.wrap .i64 (y1 - (p0.qual.length : Int)))))), (14, (.d (.i .i64 (p0.qual.length : Int)))), (13, (.d (.s (bs p0.qual)))), (12, (.ptr 2 6)), (11, (.d (.i .i64 y1))), (10, (.d (.b (decide (y1 < 0))))), (9, (.d (.i .i64 y1))), (1, (.d (.i .i64 y1))), (8, (.d (.i .i64 y1))), (7, (.d (.i .i64 p1))), (6, (vGValue p0.value)), (5, (.ptr 2 3)), (4, (.d (.i .i64 0))), (2, (.ptr 2 0)), (0, (vGExpr p0)), (1, (.d (.i .i64 p1)))], [(2, [(.d (.i .i64 p0.kind)), (.d (.i .i64 p0.op)), (.d (.b p0.not_)), (.d (.i .i64 p0.value.kind)), (.d (.i .i64 p0.value.num)), (.d (.s (bs p0.value.text))), (.d (.s (bs p0.qual))), (.d (.s (bs p0.name))), (.d (.sl 10 (p0.kids.map cGExpr))), (.d (.sl 6 (p0.sub.map cGQuery)))])]⟩) (by kernel_rfl) ?_
        refine nil_in ?_
        refine next_in ?_
        refine ret_in ?_
        refine thenK_ret ?_
        have h := Option.some.inj h; subst h
        exact ret1_step (v := (.d (.i .i64 (-1)))) (by kernel_rfl) (by kernel_rfl) (by kernel_rfl)
      · clear h; intro h
        refine skip_in ?_
        refine next_in ?_
        refine seq_in ?_
        refine ops_in ?_
        refine sts_ok 6 (s' := ⟨[(1, (.d (.i .i64 (IntKind.wrap .i64 ((IntKind.wrap .i64 (y1 - (p0.qual.length : Int))) - (p0.name.length : Int)))))), (22, (.d (.i .i64 (IntKind.wrap .i64 ((IntKind.wrap .i64 (y1 - (p0.qual.length : Int))) - (p0.name.length : Int)))))), (21, (.d (.i .i64 (p0.name.length : Int)))), (20, (.d (.s (bs p0.name)))), (19, (.ptr 2 7)), (18, (.d (.i .i64 (IntKind.wrap .i64 (y1 - (p0.qual.length : Int)))))), (17, (.d (.b (decide ((IntKind.wrap .i64 (y1 - (p0.qual.length : Int))) < 0))))), (16, (.d (.i .i64 (IntKind.wrap .i64 (y1 - (p0.qual.length : Int)))))), (1, (.d (.i .i64 (IntKind.wrap .i64 (y1 - (p0.qual.length : Int)))))), (15, (.d (.i .i64 (IntKind.wrap .i64 (y1 - (p0.qual.length : Int)))))), (14, (.d (.i .i64 (p0.qual.length : Int)))), (13, (.d (.s (bs p0.qual)))), (12, (.ptr 2 6)), (11, (.d (.i .i64 y1))), (10, (.d (.b (decide (y1 < 0))))), (9, (.d (.i .i64 y1))), (1, (.d (.i .i64 y1))), (8, (.d (.i .i64 y1))), (7, (.d (.i .i64 p1))), (6, (vGValue p0.value)), (5, (.ptr 2 3)), (4, (.d (.i .i64 0))), (2, (.ptr 2 0)), (0, (vGExpr p0)), (1, (.d (.i .i64 p1)))], [(2, [(.d (.i .i64 p0.kind)), (.d (.i .i64 p0.op)), (.d (.b p0.not_)), (.d (.i .i64 p0.value.kind)), (.d (.i .i64 p0.value.num)), (.d (.s (bs p0.value.text))), (.d (.s (bs p0.qual))), (.d (.s (bs p0.name))), (.d (.sl 10 (p0.kids.map cGExpr))), (.d (.sl 6 (p0.sub.map cGQuery)))])]⟩) (by kernel_rfl) ?_
        refine nil_in ?_
        refine next_in ?_
        refine seq_in ?_
        refine seq_in ?_
        refine ops_in ?_
        refine sts_ok 2 (s' := ⟨[(24, (.d (.b (decide ((IntKind.wrap .i64 ((IntKind.wrap .i64 (y1 - (p0.qual.length : Int))) - (p0.name.length : Int))) < 0))))), (23, (.d (.i .i64 (IntKind.wrap .i64 ((IntKind.wrap .i64 (y1 - (p0.qual.length : Int))) - (p0.name.length : Int)))))), (1, (.d (.i .i64 (IntKind.wrap .i64 ((IntKind.wrap .i64 (y1 - (p0.qual.length : Int))) - (p0.name.length : Int)))))), (22, (.d (.i .i64 (IntKind.wrap .i64 ((IntKind.wrap .i64 (y1 - (p0.qual.length : Int))) - (p0.name.length : Int)))))), (21, (.d (.i .i64 (p0.name.length : Int)))), (20, (.d (.s (bs p0.name)))), (19, (.ptr 2 7)), (18, (.d (.i .i64 (IntKind.wrap .i64 (y1 - (p0.qual.length : Int)))))), (17, (.d (.b (decide ((IntKind.wrap .i64 (y1 - (p0.qual.length : Int))) < 0))))), (16, (.d (.i .i64 (IntKind.wrap .i64 (y1 - (p0.qual.length : Int)))))), (1, (.d (.i .i64 (IntKind.wrap .i64 (y1 - (p0.qual.length : Int)))))), (15, (.d (.i .i64 (IntKind.wrap .i64 (y1 - (p0.qual.length : Int)))))), (14, (.d (.i .i64 (p0.qual.length : Int)))), (13, (.d (.s (bs p0.qual)))), (12, (.ptr 2 6)), (11, (.d (.i .i64 y1))), (10, (.d (.b (decide (y1 < 0))))), (9, (.d (.i .i64 y1))), (1, (.d (.i .i64 y1))), (8, (.d (.i .i64 y1))), (7, (.d (.i .i64 p1))), (6, (vGValue p0.value)), (5, (.ptr 2 3)), (4, (.d (.i .i64 0))), (2, (.ptr 2 0)), (0, (vGExpr p0)), (1, (.d (.i .i64 p1)))], [(2, [(.d (.i .i64 p0.kind)), (.d (.i .i64 p0.op)), (.d (.b p0.not_)), (.d (.i .i64 p0.value.kind)), (.d (.i .i64 p0.value.num)), (.d (.s (bs p0.value.text))), (.d (.s (bs p0.qual))), (.d (.s (bs p0.name))), (.d (.sl 10 (p0.kids.map cGExpr))), (.d (.sl 6 (p0.sub.map cGQuery)))])]⟩) (by kernel_rfl) ?_
        refine nil_in ?_
        refine next_in ?_
        refine cond_step h (by kernel_rfl) ?_ ?_
        · clear h; intro h
          refine seq_in ?_
          refine ops_in ?_
          refine sts_ok 1 (s' := ⟨[(4, (.d (.i .i64 (-1)))), (24, (.d (.b (decide ((IntKind.wrap .i64 ((IntKind.wrap .i64 (y1 - (p0.qual.length : Int))) - (p0.name.length : Int))) < 0))))), (23, (.d (.i .i64 (IntKind.wrap .i64 ((IntKind.wrap .i64 (y1 - (p0.qual.length : Int))) - (p0.name.length : Int)))))), (1, (.d (.i .i64 (IntKind.wrap .i64 ((IntKind.wrap .i64 (y1 - (p0.qual.length : Int))) - (p0.name.length : Int)))))), (22, (.d (.i .i64 (IntKind.wrap .i64 ((IntKind.wrap .i64 (y1 - (p0.qual.length : Int))) - (p0.name.length : Int)))))), (21, (.d (.i .i64 (p0.name.length : Int)))), (20, (.d (.s (bs p0.name)))), (19, (.ptr 2 7)), (18, (.d (.i .i64 (IntKind.wrap .i64 (y1 - (p0.qual.length : Int)))))), (17, (.d (.b (decide ((IntKind.wrap .i64 (y1 - (p0.qual.length : Int))) < 0))))), (16, (.d (.i .i64 (IntKind.wrap .i64 (y1 - (p0.qual.length : Int)))))), (1, (.d (.i .i64 (IntKind.wrap .i64 (y1 - (p0.qual.length : Int)))))), (15, (.d (.i .i64 (IntKind.wrap .i64 (y1 - (p0.qual.length : Int)))))), (14, (.d (.i .i64 (p0.qual.length : Int)))), (13, (.d (.s (bs p0.qual)))), (12, (.ptr 2 6)), (11, (.d (.i .i64 y1))), (10, (.d (.b (decide (y1 < 0))))), (9, (.d (.i .i64 y1))), (1, (.d (.i .i64 y1))), (8, (.d (.i .i64 y1))), (7, (.d (.i .i64 p1))), (6, (vGValue p0.value)), (5, (.ptr 2 3)), (4, (.d (.i .i64 0))), (2, (.ptr 2 0)), (0, (vGExpr p0)), (1, (.d (.i .i64 p1)))], [(2, [(.d (.i .i64 p0.kind)), (.d (.i .i64 p0.op)), (.d (.b p0.not_)), (.d (.i .i64 p0.value.kind)), (.d (.i .i64 p0.value.num)), (.d (.s (bs p0.value.text))), (.d (.s (bs p0.qual))), (.d (.s (bs p0.name))), (.d (.sl 10 (p0.kids.map cGExpr))), (.d (.sl 6 (p0.sub.map cGQuery)))])]⟩) (by kernel_rfl) ?_
          refine nil_in ?_
          refine next_in ?_
          refine ret_in ?_
          refine thenK_ret ?_
          have h := Option.some.inj h; subst h
          exact ret1_step (v := (.d (.i .i64 (-1)))) (by kernel_rfl) (by kernel_rfl) (by kernel_rfl)
        · clear h; intro h
          refine skip_in ?_
          refine next_in ?_
          refine seq_in ?_
          refine ops_in ?_
          refine sts_ok 3 (s' := ⟨[(27, (.d (.i .i64 (IntKind.wrap .i64 ((IntKind.wrap .i64 (y1 - (p0.qual.length : Int))) - (p0.name.length : Int)))))), (26, (.d (.sl 10 (p0.kids.map cGExpr)))), (25, (.ptr 2 8)), (24, (.d (.b (decide ((IntKind.wrap .i64 ((IntKind.wrap .i64 (y1 - (p0.qual.length : Int))) - (p0.name.length : Int))) < 0))))), (23, (.d (.i .i64 (IntKind.wrap .i64 ((IntKind.wrap .i64 (y1 - (p0.qual.length : Int))) - (p0.name.length : Int)))))), (1, (.d (.i .i64 (IntKind.wrap .i64 ((IntKind.wrap .i64 (y1 - (p0.qual.length : Int))) - (p0.name.length : Int)))))), (22, (.d (.i .i64 (IntKind.wrap .i64 ((IntKind.wrap .i64 (y1 - (p0.qual.length : Int))) - (p0.name.length : Int)))))), (21, (.d (.i .i64 (p0.name.length : Int)))), (20, (.d (.s (bs p0.name)))), (19, (.ptr 2 7)), (18, (.d (.i .i64 (IntKind.wrap .i64 (y1 - (p0.qual.length : Int)))))), (17, (.d (.b (decide ((IntKind.wrap .i64 (y1 - (p0.qual.length : Int))) < 0))))), (16, (.d (.i .i64 (IntKind.wrap .i64 (y1 - (p0.qual.length : Int)))))), (1, (.d (.i .i64 (IntKind.wrap .i64 (y1 - (p0.qual.length : Int)))))), (15, (.d (.i .i64 (IntKind.wrap .i64 (y1 - (p0.qual.length : Int)))))), (14, (.d (.i .i64 (p0.qual.length : Int)))), (13, (.d (.s (bs p0.qual)))), (12, (.ptr 2 6)), (11, (.d (.i .i64 y1))), (10, (.d (.b (decide (y1 < 0))))), (9, (.d (.i .i64 y1))), (1, (.d (.i .i64 y1))), (8, (.d (.i .i64 y1))), (7, (.d (.i .i64 p1))), (6, (vGValue p0.value)), (5, (.ptr 2 3)), (4, (.d (.i .i64 0))), (2, (.ptr 2 0)), (0, (vGExpr p0)), (1, (.d (.i .i64 p1)))], [(2, [(.d (.i .i64 p0.kind)), (.d (.i .i64 p0.op)), (.d (.b p0.not_)), (.d (.i .i64 p0.value.kind)), (.d (.i .i64 p0.value.num)), (.d (.s (bs p0.value.text))), (.d (.s (bs p0.qual))), (.d (.s (bs p0.name))), (.d (.sl 10 (p0.kids.map cGExpr))), (.d (.sl 6 (p0.sub.map cGQuery)))])]⟩) (by kernel_rfl) ?_
          refine call_step (m := F_wSzExprS p0.kids (IntKind.wrap .i64 ((IntKind.wrap .i64 (y1 - (p0.qual.length : Int))) - (p0.name.length : Int)))) (args := [(.d (.sl 10 (p0.kids.map cGExpr))), (.d (.i .i64 (IntKind.wrap .i64 ((IntKind.wrap .i64 (y1 - (p0.qual.length : Int))) - (p0.name.length : Int)))))]) (v' := (fun y => (.d (.i .i64 y)))) h (OK_wSzExprS p0.kids (IntKind.wrap .i64 ((IntKind.wrap .i64 (y1 - (p0.qual.length : Int))) - (p0.name.length : Int)))) (by kernel_rfl) (by kernel_rfl) (fun _ => rfl) ?_
          clear h; intro y2 h
          refine sts_ok 1 (s' := ⟨[(1, (.d (.i .i64 y2))), (28, (.d (.i .i64 y2))), (27, (.d (.i .i64 (IntKind.wrap .i64 ((IntKind.wrap .i64 (y1 - (p0.qual.length : Int))) - (p0.name.length : Int)))))), (26, (.d (.sl 10 (p0.kids.map cGExpr)))), (25, (.ptr 2 8)), (24, (.d (.b (decide ((IntKind.wrap .i64 ((IntKind.wrap .i64 (y1 - (p0.qual.length : Int))) - (p0.name.length : Int))) < 0))))), (23, (.d (.i .i64 (IntKind.wrap .i64 ((IntKind.wrap .i64 (y1 - (p0.qual.length : Int))) - (p0.name.length : Int)))))), (1, (.d (.i .i64 (IntKind.wrap .i64 ((IntKind.wrap .i64 (y1 - (p0.qual.length : Int))) - (p0.name.length : Int)))))), (22, (.d (.i .i64 (IntKind.wrap .i64 ((IntKind.wrap .i64 (y1 - (p0.qual.length : Int))) - (p0.name.length : Int)))))), (21, (.d (.i .i64 (p0.name.length : Int)))), (20, (.d (.s (bs p0.name)))), (19, (.ptr 2 7)), (18, (.d (.i .i64 (IntKind.wrap .i64 (y1 - (p0.qual.length : Int)))))), (17, (.d (.b (decide ((IntKind.wrap .i64 (y1 - (p0.qual.length : Int))) < 0))))), (16, (.d (.i .i64 (IntKind.wrap .i64 (y1 - (p0.qual.length : Int)))))), (1, (.d (.i .i64 (IntKind.wrap .i64 (y1 - (p0.qual.length : Int)))))), (15, (.d (.i .i64 (IntKind.wrap .i64 (y1 - (p0.qual.length : Int)))))), (14, (.d (.i .i64 (p0.qual.length : Int)))), (13, (.d (.s (bs p0.qual)))), (12, (.ptr 2 6)), (11, (.d (.i .i64 y1))), (10, (.d (.b (decide (y1 < 0))))), (9, (.d (.i .i64 y1))), (1, (.d (.i .i64 y1))), (8, (.d (.i .i64 y1))), (7, (.d (.i .i64 p1))), (6, (vGValue p0.value)), (5, (.ptr 2 3)), (4, (.d (.i .i64 0))), (2, (.ptr 2 0)), (0, (vGExpr p0)), (1, (.d (.i .i64 p1)))], [(2, [(.d (.i .i64 p0.kind)), (.d (.i .i64 p0.op)), (.d (.b p0.not_)), (.d (.i .i64 p0.value.kind)), (.d (.i .i64 p0.value.num)), (.d (.s (bs p0.value.text))), (.d (.s (bs p0.qual))), (.d (.s (bs p0.name))), (.d (.sl 10 (p0.kids.map cGExpr))), (.d (.sl 6 (p0.sub.map cGQuery)))])]⟩) (by kernel_rfl) ?_
          refine nil_in ?_
          refine next_in ?_
          refine seq_in ?_
          refine seq_in ?_
          refine ops_in ?_
          refine sts_ok 2 (s' := ⟨[(30, (.d (.b (decide (y2 < 0))))), (29, (.d (.i .i64 y2))), (1, (.d (.i .i64 y2))), (28, (.d (.i .i64 y2))), (27, (.d (.i .i64 (IntKind.wrap .i64 ((IntKind.wrap .i64 (y1 - (p0.qual.length : Int))) - (p0.name.length : Int)))))), (26, (.d (.sl 10 (p0.kids.map cGExpr)))), (25, (.ptr 2 8)), (24, (.d (.b (decide ((IntKind.wrap .i64 ((IntKind.wrap .i64 (y1 - (p0.qual.length : Int))) - (p0.name.length : Int))) < 0))))), (23, (.d (.i .i64 (IntKind.wrap .i64 ((IntKind.wrap .i64 (y1 - (p0.qual.length : Int))) - (p0.name.length : Int)))))), (1, (.d (.i .i64 (IntKind.wrap .i64 ((IntKind.wrap .i64 (y1 - (p0.qual.length : Int))) - (p0.name.length : Int)))))), (22, (.d (.i .i64 (IntKind.wrap .i64 ((IntKind.wrap .i64 (y1 - (p0.qual.length : Int))) - (p0.name.length : Int)))))), (21, (.d (.i .i64 (p0.name.length : Int)))), (20, (.d (.s (bs p0.name)))), (19, (.ptr 2 7)), (18, (.d (.i .i64 (IntKind.wrap .i64 (y1 - (p0.qual.length : Int)))))), (17, (.d (.b (decide ((IntKind.wrap .i64 (y1 - (p0.qual.length : Int))) < 0))))), (16, (.d (.i .i64 (IntKind.wrap .i64 (y1 - (p0.qual.length : Int)))))), (1, (.d (.i .i64 (IntKind.wrap .i64 (y1 - (p0.qual.length : Int)))))), (15, (.d (.i .i64 (IntKind.wrap .i64 (y1 - (p0.qual.length : Int)))))), (14, (.d (.i .i64 (p0.qual.length : Int)))), (13, (.d (.s (bs p0.qual)))), (12, (.ptr 2 6)), (11, (.d (.i .i64 y1))), (10, (.d (.b (decide (y1 < 0))))), (9, (.d (.i .i64 y1))), (1, (.d (.i .i64 y1))), (8, (.d (.i .i64 y1))), (7, (.d (.i .i64 p1))), (6, (vGValue p0.value)), (5, (.ptr 2 3)), (4, (.d (.i .i64 0))), (2, (.ptr 2 0)), (0, (vGExpr p0)), (1, (.d (.i .i64 p1)))], [(2, [(.d (.i .i64 p0.kind)), (.d (.i .i64 p0.op)), (.d (.b p0.not_)), (.d (.i .i64 p0.value.kind)), (.d (.i .i64 p0.value.num)), (.d (.s (bs p0.value.text))), (.d (.s (bs p0.qual))), (.d (.s (bs p0.name))), (.d (.sl 10 (p0.kids.map cGExpr))), (.d (.sl 6 (p0.sub.map cGQuery)))])]⟩) (by kernel_rfl) ?_
          refine nil_in ?_
          refine next_in ?_
          refine cond_step h (by kernel_rfl) ?_ ?_
          · clear h; intro h
            refine seq_in ?_
            refine ops_in ?_
            refine sts_ok 1 (s' := ⟨[(4, (.d (.i .i64 (-1)))), (30, (.d (.b (decide (y2 < 0))))), (29, (.d (.i .i64 y2))), (1, (.d (.i .i64 y2))), (28, (.d (.i .i64 y2))), (27, (.d (.i .i64 (IntKind.wrap .i64 ((IntKind.wrap .i64 (y1 - (p0.qual.length : Int))) - (p0.name.length : Int)))))), (26, (.d (.sl 10 (p0.kids.map cGExpr)))), (25, (.ptr 2 8)), (24, (.d (.b (decide ((IntKind.wrap .i64 ((IntKind.wrap .i64 (y1 - (p0.qual.length : Int))) - (p0.name.length : Int))) < 0))))), (23, (.d (.i .i64 (IntKind.wrap .i64 ((IntKind.wrap .i64 (y1 - (p0.qual.length : Int))) - (p0.name.length : Int)))))), (1, (.d (.i .i64 (IntKind.wrap .i64 ((IntKind.wrap .i64 (y1 - (p0.qual.length : Int))) - (p0.name.length : Int)))))), (22, (.d (.i .i64 (IntKind.wrap .i64 ((IntKind.wrap .i64 (y1 - (p0.qual.length : Int))) - (p0.name.length : Int)))))), (21, (.d (.i .i64 (p0.name.length : Int)))), (20, (.d (.s (bs p0.name)))), (19, (.ptr 2 7)), (18, (.d (.i .i64 (IntKind.wrap .i64 (y1 - (p0.qual.length : Int)))))), (17, (.d (.b (decide ((IntKind.wrap .i64 (y1 - (p0.qual.length : Int))) < 0))))), (16, (.d (.i .i64 (IntKind.wrap .i64 (y1 - (p0.qual.length : Int)))))), (1, (.d (.i .i64 (IntKind.wrap .i64 (y1 - (p0.qual.length : Int)))))), (15, (.d (.i .i64 (IntKind.wrap .i64 (y1 - (p0.qual.length : Int)))))), (14, (.d (.i .i64 (p0.qual.length : Int)))), (13, (.d (.s (bs p0.qual)))), (12, (.ptr 2 6)), (11, (.d (.i .i64 y1))), (10, (.d (.b (decide (y1 < 0))))), (9, (.d (.i .i64 y1))), (1, (.d (.i .i64 y1))), (8, (.d (.i .i64 y1))), (7, (.d (.i .i64 p1))), (6, (vGValue p0.value)), (5, (.ptr 2 3)), (4, (.d (.i .i64 0))), (2, (.ptr 2 0)), (0, (vGExpr p0)), (1, (.d (.i .i64 p1)))], [(2, [(.d (.i .i64 p0.kind)), (.d (.i .i64 p0.op)), (.d (.b p0.not_)), (.d (.i .i64 p0.value.kind)), (.d (.i .i64 p0.value.num)), (.d (.s (bs p0.value.text))), (.d (.s (bs p0.qual))), (.d (.s (bs p0.name))), (.d (.sl 10 (p0.kids.map cGExpr))), (.d (.sl 6 (p0.sub.map cGQuery)))])]⟩) (by kernel_rfl) ?_
            refine nil_in ?_
            refine next_in ?_
            refine ret_in ?_
            refine thenK_ret ?_
            have h := Option.some.inj h; subst h
            exact ret1_step (v := (.d (.i .i64 (-1)))) (by kernel_rfl) (by kernel_rfl) (by kernel_rfl)
          · clear h; intro h
            refine skip_in ?_
            refine next_in ?_
            refine seq_in ?_
            refine ops_in ?_
            refine sts_ok 3 (s' := ⟨[(33, (.d (.i .i64 y2))), (32, (.d (.sl 6 (p0.sub.map cGQuery)))), (31, (.ptr 2 9)), (30, (.d (.b (decide (y2 < 0))))), (29, (.d (.i .i64 y2))), (1, (.d (.i .i64 y2))), (28, (.d (.i .i64 y2))), (27, (.d (.i .i64 (IntKind.wrap .i64 ((IntKind.wrap .i64 (y1 - (p0.qual.length : Int))) - (p0.name.length : Int)))))), (26, (.d (.sl 10 (p0.kids.map cGExpr)))), (25, (.ptr 2 8)), (24, (.d (.b (decide ((IntKind.wrap .i64 ((IntKind.wrap .i64 (y1 - (p0.qual.length : Int))) - (p0.name.length : Int))) < 0))))), (23, (.d (.i .i64 (IntKind.wrap .i64 ((IntKind.wrap .i64 (y1 - (p0.qual.length : Int))) - (p0.name.length : Int)))))), (1, (.d (.i .i64 (IntKind.wrap .i64 ((IntKind.wrap .i64 (y1 - (p0.qual.length : Int))) - (p0.name.length : Int)))))), (22, (.d (.i .i64 (IntKind.wrap .i64 ((IntKind.wrap .i64 (y1 - (p0.qual.length : Int))) - (p0.name.length : Int)))))), (21, (.d (.i .i64 (p0.name.length : Int)))), (20, (.d (.s (bs p0.name)))), (19, (.ptr 2 7)), (18, (.d (.i .i64 (IntKind.wrap .i64 (y1 - (p0.qual.length : Int)))))), (17, (.d (.b (decide ((IntKind.wrap .i64 (y1 - (p0.qual.length : Int))) < 0))))), (16, (.d (.i .i64 (IntKind.wrap .i64 (y1 - (p0.qual.length : Int)))))), (1, (.d (.i .i64 (IntKind.wrap .i64 (y1 - (p0.qual.length : Int)))))), (15, (.d (.i .i64 (IntKind.wrap .i64 (y1 - (p0.qual.length : Int)))))), (14, (.d (.i .i64 (p0.qual.length : Int)))), (13, (.d (.s (bs p0.qual)))), (12, (.ptr 2 6)), (11, (.d (.i .i64 y1))), (10, (.d (.b (decide (y1 < 0))))), (9, (.d (.i .i64 y1))), (1, (.d (.i .i64 y1))), (8, (.d (.i .i64 y1))), (7, (.d (.i .i64 p1))), (6, (vGValue p0.value)), (5, (.ptr 2 3)), (4, (.d (.i .i64 0))), (2, (.ptr 2 0)), (0, (vGExpr p0)), (1, (.d (.i .i64 p1)))], [(2, [(.d (.i .i64 p0.kind)), (.d (.i .i64 p0.op)), (.d (.b p0.not_)), (.d (.i .i64 p0.value.kind)), (.d (.i .i64 p0.value.num)), (.d (.s (bs p0.value.text))), (.d (.s (bs p0.qual))), (.d (.s (bs p0.name))), (.d (.sl 10 (p0.kids.map cGExpr))), (.d (.sl 6 (p0.sub.map cGQuery)))])]⟩) (by kernel_rfl) ?_
            refine call_step (m := F_wSzQueryS p0.sub y2) (args := [(.d (.sl 6 (p0.sub.map cGQuery))), (.d (.i .i64 y2))]) (v' := (fun y => (.d (.i .i64 y)))) h (OK_wSzQueryS p0.sub y2) (by kernel_rfl) (by kernel_rfl) (fun _ => rfl) ?_
            clear h; intro y3 h
            refine sts_ok 1 (s' := ⟨[(1, (.d (.i .i64 y3))), (34, (.d (.i .i64 y3))), (33, (.d (.i .i64 y2))), (32, (.d (.sl 6 (p0.sub.map cGQuery)))), (31, (.ptr 2 9)), (30, (.d (.b (decide (y2 < 0))))), (29, (.d (.i .i64 y2))), (1, (.d (.i .i64 y2))), (28, (.d (.i .i64 y2))), (27, (.d (.i .i64 (IntKind.wrap .i64 ((IntKind.wrap .i64 (y1 - (p0.qual.length : Int))) - (p0.name.length : Int)))))), (26, (.d (.sl 10 (p0.kids.map cGExpr)))), (25, (.ptr 2 8)), (24, (.d (.b (decide ((IntKind.wrap .i64 ((IntKind.wrap .i64 (y1 - (p0.qual.length : Int))) - (p0.name.length : Int))) < 0))))), (23, (.d (.i .i64 (IntKind.wrap .i64 ((IntKind.wrap .i64 (y1 - (p0.qual.length : Int))) - (p0.name.length : Int)))))), (1, (.d (.i .i64 (IntKind.wrap .i64 ((IntKind.wrap .i64 (y1 - (p0.qual.length : Int))) - (p0.name.length : Int)))))), (22, (.d (.i .i64 (IntKind.wrap .i64 ((IntKind.wrap .i64 (y1 - (p0.qual.length : Int))) - (p0.name.length : Int)))))), (21, (.d (.i .i64 (p0.name.length : Int)))), (20, (.d (.s (bs p0.name)))), (19, (.ptr 2 7)), (18, (.d (.i .i64 (IntKind.wrap .i64 (y1 - (p0.qual.length : Int)))))), (17, (.d (.b (decide ((IntKind.wrap .i64 (y1 - (p0.qual.length : Int))) < 0))))), (16, (.d (.i .i64 (IntKind.wrap .i64 (y1 - (p0.qual.length : Int)))))), (1, (.d (.i .i64 (IntKind.wrap .i64 (y1 - (p0.qual.length : Int)))))), (15, (.d (.i .i64 (IntKind.wrap .i64 (y1 - (p0.qual.length : Int)))))), (14, (.d (.i .i64 (p0.qual.length : Int)))), (13, (.d (.s (bs p0.qual)))), (12, (.ptr 2 6)), (11, (.d (.i .i64 y1))), (10, (.d (.b (decide (y1 < 0))))), (9, (.d (.i .i64 y1))), (1, (.d (.i .i64 y1))), (8, (.d (.i .i64 y1))), (7, (.d (.i .i64 p1))), (6, (vGValue p0.value)), (5, (.ptr 2 3)), (4, (.d (.i .i64 0))), (2, (.ptr 2 0)), (0, (vGExpr p0)), (1, (.d (.i .i64 p1)))], [(2, [(.d (.i .i64 p0.kind)), (.d (.i .i64 p0.op)), (.d (.b p0.not_)), (.d (.i .i64 p0.value.kind)), (.d (.i .i64 p0.value.num)), (.d (.s (bs p0.value.text))), (.d (.s (bs p0.qual))), (.d (.s (bs p0.name))), (.d (.sl 10 (p0.kids.map cGExpr))), (.d (.sl 6 (p0.sub.map cGQuery)))])]⟩) (by kernel_rfl) ?_
            refine nil_in ?_
            refine next_in ?_
            refine seq_in ?_
            refine seq_in ?_
            refine ops_in ?_
            refine sts_ok 2 (s' := ⟨[(36, (.d (.b (decide (y3 < 0))))), (35, (.d (.i .i64 y3))), (1, (.d (.i .i64 y3))), (34, (.d (.i .i64 y3))), (33, (.d (.i .i64 y2))), (32, (.d (.sl 6 (p0.sub.map cGQuery)))), (31, (.ptr 2 9)), (30, (.d (.b (decide (y2 < 0))))), (29, (.d (.i .i64 y2))), (1, (.d (.i .i64 y2))), (28, (.d (.i .i64 y2))), (27, (.d (.i .i64 (IntKind.wrap .i64 ((IntKind.wrap .i64 (y1 - (p0.qual.length : Int))) - (p0.name.length : Int)))))), (26, (.d (.sl 10 (p0.kids.map cGExpr)))), (25, (.ptr 2 8)), (24, (.d (.b (decide ((IntKind.wrap .i64 ((IntKind.wrap .i64 (y1 - (p0.qual.length : Int))) - (p0.name.length : Int))) < 0))))), (23, (.d (.i .i64 (IntKind.wrap .i64 ((IntKind.wrap .i64 (y1 - (p0.qual.length : Int))) - (p0.name.length : Int)))))), (1, (.d (.i .i64 (IntKind.wrap .i64 ((IntKind.wrap .i64 (y1 - (p0.qual.length : Int))) - (p0.name.length : Int)))))), (22, (.d (.i .i64 (IntKind.wrap .i64 ((IntKind.wrap .i64 (y1 - (p0.qual.length : Int))) - (p0.name.length : Int)))))), (21, (.d (.i .i64 (p0.name.length : Int)))), (20, (.d (.s (bs p0.name)))), (19, (.ptr 2 7)), (18, (.d (.i .i64 (IntKind.wrap .i64 (y1 - (p0.qual.length : Int)))))), (17, (.d (.b (decide ((IntKind.wrap .i64 (y1 - (p0.qual.length : Int))) < 0))))), (16, (.d (.i .i64 (IntKind.wrap .i64 (y1 - (p0.qual.length : Int)))))), (1, (.d (.i .i64 (IntKind.wrap .i64 (y1 - (p0.qual.length : Int)))))), (15, (.d (.i .i64 (IntKind.wrap .i64 (y1 - (p0.qual.length : Int)))))), (14, (.d (.i .i64 (p0.qual.length : Int)))), (13, (.d (.s (bs p0.qual)))), (12, (.ptr 2 6)), (11, (.d (.i .i64 y1))), (10, (.d (.b (decide (y1 < 0))))), (9, (.d (.i .i64 y1))), (1, (.d (.i .i64 y1))), (8, (.d (.i .i64 y1))), (7, (.d (.i .i64 p1))), (6, (vGValue p0.value)), (5, (.ptr 2 3)), (4, (.d (.i .i64 0))), (2, (.ptr 2 0)), (0, (vGExpr p0)), (1, (.d (.i .i64 p1)))], [(2, [(.d (.i .i64 p0.kind)), (.d (.i .i64 p0.op)), (.d (.b p0.not_)), (.d (.i .i64 p0.value.kind)), (.d (.i .i64 p0.value.num)), (.d (.s (bs p0.value.text))), (.d (.s (bs p0.qual))), (.d (.s (bs p0.name))), (.d (.sl 10 (p0.kids.map cGExpr))), (.d (.sl 6 (p0.sub.map cGQuery)))])]⟩) (by kernel_rfl) ?_
            refine nil_in ?_
            refine next_in ?_
            refine cond_step h (by kernel_rfl) ?_ ?_
            · clear h; intro h
              refine seq_in ?_
              refine ops_in ?_
              refine sts_ok 1 (s' := ⟨[(4, (.d (.i .i64 (-1)))), (36, (.d (.b (decide (y3 < 0))))), (35, (.d (.i .i64 y3))), (1, (.d (.i .i64 y3))), (34, (.d (.i .i64 y3))), (33, (.d (.i .i64 y2))), (32, (.d (.sl 6 (p0.sub.map cGQuery)))), (31, (.ptr 2 9)), (30, (.d (.b (decide (y2 < 0))))), (29, (.d (.i .i64 y2))), (1, (.d (.i .i64 y2))), (28, (.d (.i .i64 y2))), (27, (.d (.i .i64 (IntKind.wrap .i64 ((IntKind.wrap .i64 (y1 - (p0.qual.length : Int))) - (p0.name.length : Int)))))), (26, (.d (.sl 10 (p0.kids.map cGExpr)))), (25, (.ptr 2 8)), (24, (.d (.b (decide ((IntKind.wrap .i64 ((IntKind.wrap .i64 (y1 - (p0.qual.length : Int))) - (p0.name.length : Int))) < 0))))), (23, (.d (.i .i64 (IntKind.wrap .i64 ((IntKind.wrap .i64 (y1 - (p0.qual.length : Int))) - (p0.name.length : Int)))))), (1, (.d (.i .i64 (IntKind.wrap .i64 ((IntKind.wrap .i64 (y1 - (p0.qual.length : Int))) - (p0.name.length : Int)))))), (22, (.d (.i .i64 (IntKind.wrap .i64 ((IntKind.wrap .i64 (y1 - (p0.qual.length : Int))) - (p0.name.length : Int)))))), (21, (.d (.i .i64 (p0.name.length : Int)))), (20, (.d (.s (bs p0.name)))), (19, (.ptr 2 7)), (18, (.d (.i .i64 (IntKind.wrap .i64 (y1 - (p0.qual.length : Int)))))), (17, (.d (.b (decide ((IntKind.wrap .i64 (y1 - (p0.qual.length : Int))) < 0))))), (16, (.d (.i .i64 (IntKind.wrap .i64 (y1 - (p0.qual.length : Int)))))), (1, (.d (.i .i64 (IntKind.wrap .i64 (y1 - (p0.qual.length : Int)))))), (15, (.d (.i .i64 (IntKind.wrap .i64 (y1 - (p0.qual.length : Int)))))), (14, (.d (.i .i64 (p0.qual.length : Int)))), (13, (.d (.s (bs p0.qual)))), (12, (.ptr 2 6)), (11, (.d (.i .i64 y1))), (10, (.d (.b (decide (y1 < 0))))), (9, (.d (.i .i64 y1))), (1, (.d (.i .i64 y1))), (8, (.d (.i .i64 y1))), (7, (.d (.i .i64 p1))), (6, (vGValue p0.value)), (5, (.ptr 2 3)), (4, (.d (.i .i64 0))), (2, (.ptr 2 0)), (0, (vGExpr p0)), (1, (.d (.i .i64 p1)))], [(2, [(.d (.i .i64 p0.kind)), (.d (.i .i64 p0.op)), (.d (.b p0.not_)), (.d (.i .i64 p0.value.kind)), (.d (.i .i64 p0.value.num)), (.d (.s (bs p0.value.text))), (.d (.s (bs p0.qual))), (.d (.s (bs p0.name))), (.d (.sl 10 (p0.kids.map cGExpr))), (.d (.sl 6 (p0.sub.map cGQuery)))])]⟩) (by kernel_rfl) ?_
              refine nil_in ?_
              refine next_in ?_
              refine ret_in ?_
              refine thenK_ret ?_
              have h := Option.some.inj h; subst h
              exact ret1_step (v := (.d (.i .i64 (-1)))) (by kernel_rfl) (by kernel_rfl) (by kernel_rfl)
            · clear h; intro h
              refine skip_in ?_
              refine next_in ?_
              refine seq_in ?_
              refine ops_in ?_
              refine sts_ok 2 (s' := ⟨[(4, (.d (.i .i64 y3))), (37, (.d (.i .i64 y3))), (36, (.d (.b (decide (y3 < 0))))), (35, (.d (.i .i64 y3))), (1, (.d (.i .i64 y3))), (34, (.d (.i .i64 y3))), (33, (.d (.i .i64 y2))), (32, (.d (.sl 6 (p0.sub.map cGQuery)))), (31, (.ptr 2 9)), (30, (.d (.b (decide (y2 < 0))))), (29, (.d (.i .i64 y2))), (1, (.d (.i .i64 y2))), (28, (.d (.i .i64 y2))), (27, (.d (.i .i64 (IntKind.wrap .i64 ((IntKind.wrap .i64 (y1 - (p0.qual.length : Int))) - (p0.name.length : Int)))))), (26, (.d (.sl 10 (p0.kids.map cGExpr)))), (25, (.ptr 2 8)), (24, (.d (.b (decide ((IntKind.wrap .i64 ((IntKind.wrap .i64 (y1 - (p0.qual.length : Int))) - (p0.name.length : Int))) < 0))))), (23, (.d (.i .i64 (IntKind.wrap .i64 ((IntKind.wrap .i64 (y1 - (p0.qual.length : Int))) - (p0.name.length : Int)))))), (1, (.d (.i .i64 (IntKind.wrap .i64 ((IntKind.wrap .i64 (y1 - (p0.qual.length : Int))) - (p0.name.length : Int)))))), (22, (.d (.i .i64 (IntKind.wrap .i64 ((IntKind.wrap .i64 (y1 - (p0.qual.length : Int))) - (p0.name.length : Int)))))), (21, (.d (.i .i64 (p0.name.length : Int)))), (20, (.d (.s (bs p0.name)))), (19, (.ptr 2 7)), (18, (.d (.i .i64 (IntKind.wrap .i64 (y1 - (p0.qual.length : Int)))))), (17, (.d (.b (decide ((IntKind.wrap .i64 (y1 - (p0.qual.length : Int))) < 0))))), (16, (.d (.i .i64 (IntKind.wrap .i64 (y1 - (p0.qual.length : Int)))))), (1, (.d (.i .i64 (IntKind.wrap .i64 (y1 - (p0.qual.length : Int)))))), (15, (.d (.i .i64 (IntKind.wrap .i64 (y1 - (p0.qual.length : Int)))))), (14, (.d (.i .i64 (p0.qual.length : Int)))), (13, (.d (.s (bs p0.qual)))), (12, (.ptr 2 6)), (11, (.d (.i .i64 y1))), (10, (.d (.b (decide (y1 < 0))))), (9, (.d (.i .i64 y1))), (1, (.d (.i .i64 y1))), (8, (.d (.i .i64 y1))), (7, (.d (.i .i64 p1))), (6, (vGValue p0.value)), (5, (.ptr 2 3)), (4, (.d (.i .i64 0))), (2, (.ptr 2 0)), (0, (vGExpr p0)), (1, (.d (.i .i64 p1)))], [(2, [(.d (.i .i64 p0.kind)), (.d (.i .i64 p0.op)), (.d (.b p0.not_)), (.d (.i .i64 p0.value.kind)), (.d (.i .i64 p0.value.num)), (.d (.s (bs p0.value.text))), (.d (.s (bs p0.qual))), (.d (.s (bs p0.name))), (.d (.sl 10 (p0.kids.map cGExpr))), (.d (.sl 6 (p0.sub.map cGQuery)))])]⟩) (by kernel_rfl) ?_
              refine nil_in ?_
              refine next_in ?_
              refine ret_in ?_
              have h := Option.some.inj h; subst h
              exact ret1_step (v := (.d (.i .i64 y3))) (by kernel_rfl) (by kernel_rfl) (by kernel_rfl)
  · intro F_wSzQueryS_L0 OK_wSzQueryS_L0 p0 p1 r h
    refine acalls_of_fn trwSzQueryS (Nat.le_of_ble_eq_true rfl) (by simp) ?_
    show avc Try.prog acwSzQueryS (qwSzQueryS _) ⟨[(0, (.d (.sl 6 (p0.map cGQuery)))), (1, (.d (.i .i64 p1)))], []⟩
    delta acwSzQueryS
    refine seq_in ?_
    refine ops_in ?_
    refine sts_ok 1 (s' := ⟨[(4, (.d (.i .i64 0))), (0, (.d (.sl 6 (p0.map cGQuery)))), (1, (.d (.i .i64 p1)))], []⟩) (by kernel_rfl) ?_
    refine nil_in ?_
    refine next_in ?_
    refine seq_in ?_
    refine ops_in ?_
    refine sts_ok 2 (s' := ⟨[(7, (.d (.sl 6 (p0.map cGQuery)))), (6, (.d (.i .i64 p1))), (4, (.d (.i .i64 0))), (0, (.d (.sl 6 (p0.map cGQuery)))), (1, (.d (.i .i64 p1)))], []⟩) (by kernel_rfl) ?_
    refine p_step (v' := (.d (.i .i64 (p0.length : Int)))) rfl rfl (vop_len (sz := 6) (l := p0) (f := cGQuery) (by kernel_rfl) (by kernel_rfl)) ?_
    refine sts_ok 2 (s' := ⟨[(1, (.d (.i .i64 (IntKind.wrap .i64 (p1 - (p0.length : Int)))))), (9, (.d (.i .i64 (IntKind.wrap .i64 (p1 - (p0.length : Int)))))), (8, (.d (.i .i64 (p0.length : Int)))), (7, (.d (.sl 6 (p0.map cGQuery)))), (6, (.d (.i .i64 p1))), (4, (.d (.i .i64 0))), (0, (.d (.sl 6 (p0.map cGQuery)))), (1, (.d (.i .i64 p1)))], []⟩) (by kernel_rfl) ?_
    refine nil_in ?_
    refine next_in ?_
    refine seq_in ?_
    refine seq_in ?_
    refine ops_in ?_
    refine sts_ok 2 (s' := ⟨[(11, (.d (.b (decide ((IntKind.wrap .i64 (p1 - (p0.length : Int))) < 0))))), (10, (.d (.i .i64 (IntKind.wrap .i64 (p1 - (p0.length : Int)))))), (1, (.d (.i .i64 (IntKind.wrap .i64 (p1 - (p0.length : Int)))))), (9, (.d (.i .i64 (IntKind.wrap .i64 (p1 - (p0.length : Int)))))), (8, (.d (.i .i64 (p0.length : Int)))), (7, (.d (.sl 6 (p0.map cGQuery)))), (6, (.d (.i .i64 p1))), (4, (.d (.i .i64 0))), (0, (.d (.sl 6 (p0.map cGQuery)))), (1, (.d (.i .i64 p1)))], []⟩) (by kernel_rfl) ?_
    refine nil_in ?_
    refine next_in ?_
    refine cond_step h (by kernel_rfl) ?_ ?_
    · clear h; intro h
      refine seq_in ?_
      refine ops_in ?_
      refine sts_ok 1 (s' := ⟨[(4, (.d (.i .i64 (-1)))), (11, (.d (.b (decide ((IntKind.wrap .i64 (p1 - (p0.length : Int))) < 0))))), (10, (.d (.i .i64 (IntKind.wrap .i64 (p1 - (p0.length : Int)))))), (1, (.d (.i .i64 (IntKind.wrap .i64 (p1 - (p0.length : Int)))))), (9, (.d (.i .i64 (IntKind.wrap .i64 (p1 - (p0.length : Int)))))), (8, (.d (.i .i64 (p0.length : Int)))), (7, (.d (.sl 6 (p0.map cGQuery)))), (6, (.d (.i .i64 p1))), (4, (.d (.i .i64 0))), (0, (.d (.sl 6 (p0.map cGQuery)))), (1, (.d (.i .i64 p1)))], []⟩) (by kernel_rfl) ?_
      refine nil_in ?_
      refine next_in ?_
      refine ret_in ?_
      refine thenK_ret ?_
      have h := Option.some.inj h; subst h
      exact ret1_step (v := (.d (.i .i64 (-1)))) (by kernel_rfl) (by kernel_rfl) (by kernel_rfl)
    · clear h; intro h
      refine skip_in ?_
      refine next_in ?_
      refine seq_in ?_
      refine seq_in ?_
      refine ops_in ?_
      refine sts_ok 1 (s' := ⟨[(5, (.d (.i .i64 0))), (11, (.d (.b (decide ((IntKind.wrap .i64 (p1 - (p0.length : Int))) < 0))))), (10, (.d (.i .i64 (IntKind.wrap .i64 (p1 - (p0.length : Int)))))), (1, (.d (.i .i64 (IntKind.wrap .i64 (p1 - (p0.length : Int)))))), (9, (.d (.i .i64 (IntKind.wrap .i64 (p1 - (p0.length : Int)))))), (8, (.d (.i .i64 (p0.length : Int)))), (7, (.d (.sl 6 (p0.map cGQuery)))), (6, (.d (.i .i64 p1))), (4, (.d (.i .i64 0))), (0, (.d (.sl 6 (p0.map cGQuery)))), (1, (.d (.i .i64 p1)))], []⟩) (by kernel_rfl) ?_
      refine nil_in ?_
      refine next_in ?_
      refine block_in ?_
      exact loop_go (s' := stwSzQueryS_L0 p0 (IntKind.wrap .i64 (p1 - (p0.length : Int))) 0) (wk_ren [] (by kernel_rfl) (er_cons (vr_same (by kernel_rfl) (by kernel_rfl)) (er_cons (vr_same (by kernel_rfl) (by kernel_rfl)) (er_cons (vr_same (by kernel_rfl) (by kernel_rfl)) (er_nil)))) (br_nil)) (OK_wSzQueryS_L0 p0 (IntKind.wrap .i64 (p1 - (p0.length : Int))) 0 _ h)
  · intro F_wSzQueryS_L0 F_wSzQuery OK_wSzQueryS_L0 OK_wSzQuery p0 x1 x5 r h
    delta acwSzQueryS_L0
    refine loop_unroll ?_
    refine seq_in ?_
    refine seq_in ?_
    refine ops_in ?_
    refine sts_ok 2 (s' := ⟨(13, (.d (.sl 6 (p0.map cGQuery)))) :: (12, (.d (.i .i64 x5))) :: (stwSzQueryS_L0 p0 x1 x5).env, (stwSzQueryS_L0 p0 x1 x5).bx⟩) (by kernel_rfl) ?_
    refine p_step (v' := (.d (.i .i64 (p0.length : Int)))) rfl rfl (vop_len (sz := 6) (l := p0) (f := cGQuery) (by kernel_rfl) (by kernel_rfl)) ?_
    refine sts_ok 1 (s' := ⟨(15, (.d (.b (decide (x5 < (p0.length : Int)))))) :: (14, (.d (.i .i64 (p0.length : Int)))) :: (13, (.d (.sl 6 (p0.map cGQuery)))) :: (12, (.d (.i .i64 x5))) :: (stwSzQueryS_L0 p0 x1 x5).env, (stwSzQueryS_L0 p0 x1 x5).bx⟩) (by kernel_rfl) ?_
    refine nil_in ?_
    refine next_in ?_
    refine cond_step h (by kernel_rfl) ?_ ?_
    · clear h; intro h
      refine skip_in ?_
      refine next_in ?_
      refine seq_in ?_
      refine block_in ?_
      refine seq_in ?_
      refine ops_in ?_
      refine sts_ok 2 (s' := ⟨(19, (.d (.i .i64 x5))) :: (18, (.d (.sl 6 (p0.map cGQuery)))) :: (15, (.d (.b (decide (x5 < (p0.length : Int)))))) :: (14, (.d (.i .i64 (p0.length : Int)))) :: (13, (.d (.sl 6 (p0.map cGQuery)))) :: (12, (.d (.i .i64 x5))) :: (stwSzQueryS_L0 p0 x1 x5).env, (stwSzQueryS_L0 p0 x1 x5).bx⟩) (by kernel_rfl) ?_
      refine v_step (m := idx p0 x5) (v' := fun y => (.rp [(.b y.distinct), (.sl 13 (y.items.map cGItem)), (.sl 3 (y.from_.map cGSource)), (.sl 10 (y.where_.map cGExpr)), (.sl 11 (y.order.map cGSortKey)), (.i .i64 y.limit)])) h rfl rfl (fun y hy => vop_ia (l := p0) (f := cGQuery) (g := oGQuery) (k := .i64) hy cGQuery_eq (by kernel_rfl) (by kernel_rfl) (by kernel_rfl)) ?_
      clear h; intro y1 h
      refine sts_ok 2 (s' := ⟨(22, (.d (.i .i64 x1))) :: (21, (vGQuery y1)) :: (20, (.rp [(.b y1.distinct), (.sl 13 (y1.items.map cGItem)), (.sl 3 (y1.from_.map cGSource)), (.sl 10 (y1.where_.map cGExpr)), (.sl 11 (y1.order.map cGSortKey)), (.i .i64 y1.limit)])) :: (19, (.d (.i .i64 x5))) :: (18, (.d (.sl 6 (p0.map cGQuery)))) :: (15, (.d (.b (decide (x5 < (p0.length : Int)))))) :: (14, (.d (.i .i64 (p0.length : Int)))) :: (13, (.d (.sl 6 (p0.map cGQuery)))) :: (12, (.d (.i .i64 x5))) :: (stwSzQueryS_L0 p0 x1 x5).env, (stwSzQueryS_L0 p0 x1 x5).bx⟩) (by kernel_rfl) ?_
      refine call_step (m := F_wSzQuery y1 x1) (args := [(vGQuery y1), (.d (.i .i64 x1))]) (v' := (fun y => (.d (.i .i64 y)))) h (OK_wSzQuery y1 x1) (by kernel_rfl) (by kernel_rfl) (fun _ => rfl) ?_
      clear h; intro y2 h
      refine sts_ok 1 (s' := ⟨(1, (.d (.i .i64 y2))) :: (23, (.d (.i .i64 y2))) :: (22, (.d (.i .i64 x1))) :: (21, (vGQuery y1)) :: (20, (.rp [(.b y1.distinct), (.sl 13 (y1.items.map cGItem)), (.sl 3 (y1.from_.map cGSource)), (.sl 10 (y1.where_.map cGExpr)), (.sl 11 (y1.order.map cGSortKey)), (.i .i64 y1.limit)])) :: (19, (.d (.i .i64 x5))) :: (18, (.d (.sl 6 (p0.map cGQuery)))) :: (15, (.d (.b (decide (x5 < (p0.length : Int)))))) :: (14, (.d (.i .i64 (p0.length : Int)))) :: (13, (.d (.sl 6 (p0.map cGQuery)))) :: (12, (.d (.i .i64 x5))) :: (stwSzQueryS_L0 p0 x1 x5).env, (stwSzQueryS_L0 p0 x1 x5).bx⟩) (by kernel_rfl) ?_
      refine nil_in ?_
      refine next_in ?_
      refine seq_in ?_
      refine ops_in ?_
      refine sts_ok 2 (s' := ⟨(25, (.d (.b (decide (y2 < 0))))) :: (24, (.d (.i .i64 y2))) :: (1, (.d (.i .i64 y2))) :: (23, (.d (.i .i64 y2))) :: (22, (.d (.i .i64 x1))) :: (21, (vGQuery y1)) :: (20, (.rp [(.b y1.distinct), (.sl 13 (y1.items.map cGItem)), (.sl 3 (y1.from_.map cGSource)), (.sl 10 (y1.where_.map cGExpr)), (.sl 11 (y1.order.map cGSortKey)), (.i .i64 y1.limit)])) :: (19, (.d (.i .i64 x5))) :: (18, (.d (.sl 6 (p0.map cGQuery)))) :: (15, (.d (.b (decide (x5 < (p0.length : Int)))))) :: (14, (.d (.i .i64 (p0.length : Int)))) :: (13, (.d (.sl 6 (p0.map cGQuery)))) :: (12, (.d (.i .i64 x5))) :: (stwSzQueryS_L0 p0 x1 x5).env, (stwSzQueryS_L0 p0 x1 x5).bx⟩) (by kernel_rfl) ?_
      refine nil_in ?_
      refine next_in ?_
      refine cond_step h (by kernel_rfl) ?_ ?_
      · clear h; intro h
        refine seq_in ?_
        refine ops_in ?_
        refine sts_ok 1 (s' := ⟨(4, (.d (.i .i64 (-1)))) :: (25, (.d (.b (decide (y2 < 0))))) :: (24, (.d (.i .i64 y2))) :: (1, (.d (.i .i64 y2))) :: (23, (.d (.i .i64 y2))) :: (22, (.d (.i .i64 x1))) :: (21, (vGQuery y1)) :: (20, (.rp [(.b y1.distinct), (.sl 13 (y1.items.map cGItem)), (.sl 3 (y1.from_.map cGSource)), (.sl 10 (y1.where_.map cGExpr)), (.sl 11 (y1.order.map cGSortKey)), (.i .i64 y1.limit)])) :: (19, (.d (.i .i64 x5))) :: (18, (.d (.sl 6 (p0.map cGQuery)))) :: (15, (.d (.b (decide (x5 < (p0.length : Int)))))) :: (14, (.d (.i .i64 (p0.length : Int)))) :: (13, (.d (.sl 6 (p0.map cGQuery)))) :: (12, (.d (.i .i64 x5))) :: (stwSzQueryS_L0 p0 x1 x5).env, (stwSzQueryS_L0 p0 x1 x5).bx⟩) (by kernel_rfl) ?_
        refine nil_in ?_
        refine next_in ?_
        refine ret_in ?_
        refine blockK_ret ?_
        refine thenK_ret ?_
        refine thenK_ret ?_
        refine blockK_ret ?_
        refine thenK_ret ?_
        have h := Option.some.inj h; subst h
        exact ret1_step (v := (.d (.i .i64 (-1)))) (by kernel_rfl) (by kernel_rfl) (by kernel_rfl)
      · clear h; intro h
        refine skip_in ?_
        refine blockK_norm ?_
        refine next_in ?_
        refine ops_in ?_
        refine sts_ok 3 (s' := ⟨(5, (.d (.i .i64 (IntKind.wrap .i64 (x5 + 1))))) :: (17, (.d (.i .i64 (IntKind.wrap .i64 (x5 + 1))))) :: (16, (.d (.i .i64 x5))) :: (25, (.d (.b (decide (y2 < 0))))) :: (24, (.d (.i .i64 y2))) :: (1, (.d (.i .i64 y2))) :: (23, (.d (.i .i64 y2))) :: (22, (.d (.i .i64 x1))) :: (21, (vGQuery y1)) :: (20, (.rp [(.b y1.distinct), (.sl 13 (y1.items.map cGItem)), (.sl 3 (y1.from_.map cGSource)), (.sl 10 (y1.where_.map cGExpr)), (.sl 11 (y1.order.map cGSortKey)), (.i .i64 y1.limit)])) :: (19, (.d (.i .i64 x5))) :: (18, (.d (.sl 6 (p0.map cGQuery)))) :: (15, (.d (.b (decide (x5 < (p0.length : Int)))))) :: (14, (.d (.i .i64 (p0.length : Int)))) :: (13, (.d (.sl 6 (p0.map cGQuery)))) :: (12, (.d (.i .i64 x5))) :: (stwSzQueryS_L0 p0 x1 x5).env, (stwSzQueryS_L0 p0 x1 x5).bx⟩) (by kernel_rfl) ?_
        refine nil_in ?_
        exact loop_back (s' := stwSzQueryS_L0 p0 y2 (IntKind.wrap .i64 (x5 + 1))) (wk_ren [] (by kernel_rfl) (er_cons (vr_same (by kernel_rfl) (by kernel_rfl)) (er_cons (vr_same (by kernel_rfl) (by kernel_rfl)) (er_cons (vr_same (by kernel_rfl) (by kernel_rfl)) (er_nil)))) (br_nil)) (OK_wSzQueryS_L0 p0 y2 (IntKind.wrap .i64 (x5 + 1)) _ h)
    · clear h; intro h
      refine exit_in ?_
      refine thenK_exit ?_
      refine thenK_exit ?_
      refine blockK_here ?_
      refine next_in ?_
      refine seq_in ?_
      refine ops_in ?_
      refine sts_ok 2 (s' := ⟨(4, (.d (.i .i64 x1))) :: (26, (.d (.i .i64 x1))) :: (15, (.d (.b (decide (x5 < (p0.length : Int)))))) :: (14, (.d (.i .i64 (p0.length : Int)))) :: (13, (.d (.sl 6 (p0.map cGQuery)))) :: (12, (.d (.i .i64 x5))) :: (stwSzQueryS_L0 p0 x1 x5).env, (stwSzQueryS_L0 p0 x1 x5).bx⟩) (by kernel_rfl) ?_
      refine nil_in ?_
      refine next_in ?_
      refine ret_in ?_
      have h := Option.some.inj h; subst h
      exact ret1_step (v := (.d (.i .i64 x1))) (by kernel_rfl) (by kernel_rfl) (by kernel_rfl)
  · intro F_wSzExprS F_wSzSortKeyS F_wSzSourceS F_wSzItemS OK_wSzExprS OK_wSzSortKeyS OK_wSzSourceS OK_wSzItemS p0 p1 r h
    refine acalls_of_fn trwSzQuery (Nat.le_of_ble_eq_true rfl) (by simp) ?_
    show avc Try.prog acwSzQuery (qwSzQuery _) ⟨[(0, (vGQuery p0)), (1, (.d (.i .i64 p1)))], []⟩
    delta acwSzQuery
    refine seq_in ?_
    refine ops_in ?_
    refine sts_ok 2 (s' := ⟨[(4, (.d (.i .i64 0))), (2, (.ptr 2 0)), (0, (vGQuery p0)), (1, (.d (.i .i64 p1)))], [(2, [(.d (.b p0.distinct)), (.d (.sl 13 (p0.items.map cGItem))), (.d (.sl 3 (p0.from_.map cGSource))), (.d (.sl 10 (p0.where_.map cGExpr))), (.d (.sl 11 (p0.order.map cGSortKey))), (.d (.i .i64 p0.limit))])]⟩) (by kernel_rfl) ?_
    refine nil_in ?_
    refine next_in ?_
    refine seq_in ?_
    refine ops_in ?_
    refine sts_ok 3 (s' := ⟨[(7, (.d (.i .i64 p1))), (6, (.d (.sl 13 (p0.items.map cGItem)))), (5, (.ptr 2 1)), (4, (.d (.i .i64 0))), (2, (.ptr 2 0)), (0, (vGQuery p0)), (1, (.d (.i .i64 p1)))], [(2, [(.d (.b p0.distinct)), (.d (.sl 13 (p0.items.map cGItem))), (.d (.sl 3 (p0.from_.map cGSource))), (.d (.sl 10 (p0.where_.map cGExpr))), (.d (.sl 11 (p0.order.map cGSortKey))), (.d (.i .i64 p0.limit))])]⟩) (by kernel_rfl) ?_
    refine call_step (m := F_wSzItemS p0.items p1) (args := [(.d (.sl 13 (p0.items.map cGItem))), (.d (.i .i64 p1))]) (v' := (fun y => (.d (.i .i64 y)))) h (OK_wSzItemS p0.items p1) (by kernel_rfl) (by kernel_rfl) (fun _ => rfl) ?_
    clear h; intro y1 h
    refine sts_ok 1 (s' := ⟨[(1, (.d (.i .i64 y1))), (8, (.d (.i .i64 y1))), (7, (.d (.i .i64 p1))), (6, (.d (.sl 13 (p0.items.map cGItem)))), (5, (.ptr 2 1)), (4, (.d (.i .i64 0))), (2, (.ptr 2 0)), (0, (vGQuery p0)), (1, (.d (.i .i64 p1)))], [(2, [(.d (.b p0.distinct)), (.d (.sl 13 (p0.items.map cGItem))), (.d (.sl 3 (p0.from_.map cGSource))), (.d (.sl 10 (p0.where_.map cGExpr))), (.d (.sl 11 (p0.order.map cGSortKey))), (.d (.i .i64 p0.limit))])]⟩) (by kernel_rfl) ?_
    refine nil_in ?_
    refine next_in ?_
    refine seq_in ?_
    refine seq_in ?_
    refine ops_in ?_
    refine sts_ok 2 (s' := ⟨[(10, (.d (.b (decide (y1 < 0))))), (9, (.d (.i .i64 y1))), (1, (.d (.i .i64 y1))), (8, (.d (.i .i64 y1))), (7, (.d (.i .i64 p1))), (6, (.d (.sl 13 (p0.items.map cGItem)))), (5, (.ptr 2 1)), (4, (.d (.i .i64 0))), (2, (.ptr 2 0)), (0, (vGQuery p0)), (1, (.d (.i .i64 p1)))], [(2, [(.d (.b p0.distinct)), (.d (.sl 13 (p0.items.map cGItem))), (.d (.sl 3 (p0.from_.map cGSource))), (.d (.sl 10 (p0.where_.map cGExpr))), (.d (.sl 11 (p0.order.map cGSortKey))), (.d (.i .i64 p0.limit))])]⟩) (by kernel_rfl) ?_
    refine nil_in ?_
    refine next_in ?_
    refine cond_step h (by kernel_rfl) ?_ ?_
    · clear h; intro h
      refine seq_in ?_
      refine ops_in ?_
      refine sts_ok 1 (s' := ⟨[(4, (.d (.i .i64 (-1)))), (10, (.d (.b (decide (y1 < 0))))), (9, (.d (.i .i64 y1))), (1, (.d (.i .i64 y1))), (8, (.d (.i .i64 y1))), (7, (.d (.i .i64 p1))), (6, (.d (.sl 13 (p0.items.map cGItem)))), (5, (.ptr 2 1)), (4, (.d (.i .i64 0))), (2, (.ptr 2 0)), (0, (vGQuery p0)), (1, (.d (.i .i64 p1)))], [(2, [(.d (.b p0.distinct)), (.d (.sl 13 (p0.items.map cGItem))), (.d (.sl 3 (p0.from_.map cGSource))), (.d (.sl 10 (p0.where_.map cGExpr))), (.d (.sl 11 (p0.order.map cGSortKey))), (.d (.i .i64 p0.limit))])]⟩) (by kernel_rfl) ?_
      refine nil_in ?_
      refine next_in ?_
      refine ret_in ?_
      refine thenK_ret ?_
      have h := Option.some.inj h; subst h
      exact ret1_step (v := (.d (.i .i64 (-1)))) (by kernel_rfl) (by kernel_rfl) (by kernel_rfl)
    · clear h; intro h
      refine skip_in ?_
      refine next_in ?_
      refine seq_in ?_
      refine ops_in ?_
      refine sts_ok 3 (s' := ⟨[(13, (.d (.i .i64 y1))), (12, (.d (.sl 3 (p0.from_.map cGSource)))), (11, (.ptr 2 2)), (10, (.d (.b (decide (y1 < 0))))), (9, (.d (.i .i64 y1))), (1, (.d (.i .i64 y1))), (8, (.d (.i .i64 y1))), (7, (.d (.i .i64 p1))), (6, (.d (.sl 13 (p0.items.map cGItem)))), (5, (.ptr 2 1)), (4, (.d (.i .i64 0))), (2, (.ptr 2 0)), (0, (vGQuery p0)), (1, (.d (.i .i64 p1)))], [(2, [(.d (.b p0.distinct)), (.d (.sl 13 (p0.items.map cGItem))), (.d (.sl 3 (p0.from_.map cGSource))), (.d (.sl 10 (p0.where_.map cGExpr))), (.d (.sl 11 (p0.order.map cGSortKey))), (.d (.i .i64 p0.limit))])]⟩) (by kernel_rfl) ?_
      refine call_step (m := F_wSzSourceS p0.from_ y1) (args := [(.d (.sl 3 (p0.from_.map cGSource))), (.d (.i .i64 y1))]) (v' := (fun y => (.d (.i .i64 y)))) h (OK_wSzSourceS p0.from_ y1) (by kernel_rfl) (by kernel_rfl) (fun _ => rfl) ?_
      clear h; intro y2 h
      refine sts_ok 1 (s' := ⟨[(1, (.d (.i .i64 y2))), (14, (.d (.i .i64 y2))), (13, (.d (.i .i64 y1))), (12, (.d (.sl 3 (p0.from_.map cGSource)))), (11, (.ptr 2 2)), (10, (.d (.b (decide (y1 < 0))))), (9, (.d (.i .i64 y1))), (1, (.d (.i .i64 y1))), (8, (.d (.i .i64 y1))), (7, (.d (.i .i64 p1))), (6, (.d (.sl 13 (p0.items.map cGItem)))), (5, (.ptr 2 1)), (4, (.d (.i .i64 0))), (2, (.ptr 2 0)), (0, (vGQuery p0)), (1, (.d (.i .i64 p1)))], [(2, [(.d (.b p0.distinct)), (.d (.sl 13 (p0.items.map cGItem))), (.d (.sl 3 (p0.from_.map cGSource))), (.d (.sl 10 (p0.where_.map cGExpr))), (.d (.sl 11 (p0.order.map cGSortKey))), (.d (.i .i64 p0.limit))])]⟩) (by kernel_rfl) ?_
      refine nil_in ?_
      refine next_in ?_
      refine seq_in ?_
      refine seq_in ?_
      refine ops_in ?_
      refine sts_ok 2 (s' := ⟨[(16, (.d (.b (decide (y2 < 0))))), (15, (.d (.i .i64 y2))), (1, (.d (.i .i64 y2))), (14, (.d (.i .i64 y2))), (13, (.d (.i .i64 y1))), (12, (.d (.sl 3 (p0.from_.map cGSource)))), (11, (.ptr 2 2)), (10, (.d (.b (decide (y1 < 0))))), (9, (.d (.i .i64 y1))), (1, (.d (.i .i64 y1))), (8, (.d (.i .i64 y1))), (7, (.d (.i .i64 p1))), (6, (.d (.sl 13 (p0.items.map cGItem)))), (5, (.ptr 2 1)), (4, (.d (.i .i64 0))), (2, (.ptr 2 0)), (0, (vGQuery p0)), (1, (.d (.i .i64 p1)))], [(2, [(.d (.b p0.distinct)), (.d (.sl 13 (p0.items.map cGItem))), (.d (.sl 3 (p0.from_.map cGSource))), (.d (.sl 10 (p0.where_.map cGExpr))), (.d (.sl 11 (p0.order.map cGSortKey))), (.d (.i .i64 p0.limit))])]⟩) (by kernel_rfl) ?_
      refine nil_in ?_
      refine next_in ?_
      refine cond_step h (by kernel_rfl) ?_ ?_
      · clear h; intro h
        refine seq_in ?_
        refine ops_in ?_
        refine sts_ok 1 (s' := ⟨[(4, (.d (.i .i64 (-1)))), (16, (.d (.b (decide (y2 < 0))))), (15, (.d (.i .i64 y2))), (1, (.d (.i .i64 y2))), (14, (.d (.i .i64 y2))), (13, (.d (.i .i64 y1))), (12, (.d (.sl 3 (p0.from_.map cGSource)))), (11, (.ptr 2 2)), (10, (.d (.b (decide (y1 < 0))))), (9, (.d (.i .i64 y1))), (1, (.d (.i .i64 y1))), (8, (.d (.i .i64 y1))), (7, (.d (.i .i64 p1))), (6, (.d (.sl 13 (p0.items.map cGItem)))), (5, (.ptr 2 1)), (4, (.d (.i .i64 0))), (2, (.ptr 2 0)), (0, (vGQuery p0)), (1, (.d (.i .i64 p1)))], [(2, [(.d (.b p0.distinct)), (.d (.sl 13 (p0.items.map cGItem))), (.d (.sl 3 (p0.from_.map cGSource))), (.d (.sl 10 (p0.where_.map cGExpr))), (.d (.sl 11 (p0.order.map cGSortKey))), (.d (.i .i64 p0.limit))])]⟩) (by kernel_rfl) ?_
        refine nil_in ?_
        refine next_in ?_
        refine ret_in ?_
        refine thenK_ret ?_
        have h := Option.some.inj h; subst h
        exact ret1_step (v := (.d (.i .i64 (-1)))) (by kernel_rfl) (by kernel_rfl) (by kernel_rfl)
      · clear h; intro h
        refine skip_in ?_
        refine next_in ?_
        refine seq_in ?_
        refine ops_in ?_
        refine sts_ok 3 (s' := ⟨[(19, (.d (.i .i64 y2))), (18, (.d (.sl 10 (p0.where_.map cGExpr)))), (17, (.ptr 2 3)), (16, (.d (.b (decide (y2 < 0))))), (15, (.d (.i .i64 y2))), (1, (.d (.i .i64 y2))), (14, (.d (.i .i64 y2))), (13, (.d (.i .i64 y1))), (12, (.d (.sl 3 (p0.from_.map cGSource)))), (11, (.ptr 2 2)), (10, (.d (.b (decide (y1 < 0))))), (9, (.d (.i .i64 y1))), (1, (.d (.i .i64 y1))), (8, (.d (.i .i64 y1))), (7, (.d (.i .i64 p1))), (6, (.d (.sl 13 (p0.items.map cGItem)))), (5, (.ptr 2 1)), (4, (.d (.i .i64 0))), (2, (.ptr 2 0)), (0, (vGQuery p0)), (1, (.d (.i .i64 p1)))], [(2, [(.d (.b p0.distinct)), (.d (.sl 13 (p0.items.map cGItem))), (.d (.sl 3 (p0.from_.map cGSource))), (.d (.sl 10 (p0.where_.map cGExpr))), (.d (.sl 11 (p0.order.map cGSortKey))), (.d (.i .i64 p0.limit))])]⟩) (by kernel_rfl) ?_
        refine call_step (m := F_wSzExprS p0.where_ y2) (args := [(.d (.sl 10 (p0.where_.map cGExpr))), (.d (.i .i64 y2))]) (v' := (fun y => (.d (.i .i64 y)))) h (OK_wSzExprS p0.where_ y2) (by kernel_rfl) (by kernel_rfl) (fun _ => rfl) ?_
        clear h; intro y3 h
        refine sts_ok 1 (s' := ⟨[(1, (.d (.i .i64 y3))), (20, (.d (.i .i64 y3))), (19, (.d (.i .i64 y2))), (18, (.d (.sl 10 (p0.where_.map cGExpr)))), (17, (.ptr 2 3)), (16, (.d (.b (decide (y2 < 0))))), (15, (.d (.i .i64 y2))), (1, (.d (.i .i64 y2))), (14, (.d (.i .i64 y2))), (13, (.d (.i .i64 y1))), (12, (.d (.sl 3 (p0.from_.map cGSource)))), (11, (.ptr 2 2)), (10, (.d (.b (decide (y1 < 0))))), (9, (.d (.i .i64 y1))), (1, (.d (.i .i64 y1))), (8, (.d (.i .i64 y1))), (7, (.d (.i .i64 p1))), (6, (.d (.sl 13 (p0.items.map cGItem)))), (5, (.ptr 2 1)), (4, (.d (.i .i64 0))), (2, (.ptr 2 0)), (0, (vGQuery p0)), (1, (.d (.i .i64 p1)))], [(2, [(.d (.b p0.distinct)), (.d (.sl 13 (p0.items.map cGItem))), (.d (.sl 3 (p0.from_.map cGSource))), (.d (.sl 10 (p0.where_.map cGExpr))), (.d (.sl 11 (p0.order.map cGSortKey))), (.d (.i .i64 p0.limit))])]⟩) (by kernel_rfl) ?_
        refine nil_in ?_
        refine next_in ?_
        refine seq_in ?_
        refine seq_in ?_
        refine ops_in ?_
        refine sts_ok 2 (s' := ⟨[(22, (.d (.b (decide (y3 < 0))))), (21, (.d (.i .i64 y3))), (1, (.d (.i .i64 y3))), (20, (.d (.i .i64 y3))), (19, (.d (.i .i64 y2))), (18, (.d (.sl 10 (p0.where_.map cGExpr)))), (17, (.ptr 2 3)), (16, (.d (.b (decide (y2 < 0))))), (15, (.d (.i .i64 y2))), (1, (.d (.i .i64 y2))), (14, (.d (.i .i64 y2))), (13, (.d (.i .i64 y1))), (12, (.d (.sl 3 (p0.from_.map cGSource)))), (11, (.ptr 2 2)), (10, (.d (.b (decide (y1 < 0))))), (9, (.d (.i .i64 y1))), (1, (.d (.i .i64 y1))), (8, (.d (.i .i64 y1))), (7, (.d (.i .i64 p1))), (6, (.d (.sl 13 (p0.items.map cGItem)))), (5, (.ptr 2 1)), (4, (.d (.i .i64 0))), (2, (.ptr 2 0)), (0, (vGQuery p0)), (1, (.d (.i .i64 p1)))], [(2, [(.d (.b p0.distinct)), (.d (.sl 13 (p0.items.map cGItem))), (.d (.sl 3 (p0.from_.map cGSource))), (.d (.sl 10 (p0.where_.map cGExpr))), (.d (.sl 11 (p0.order.map cGSortKey))), (.d (.i .i64 p0.limit))])]⟩) (by kernel_rfl) ?_
        refine nil_in ?_
        refine next_in ?_
        refine cond_step h (by kernel_rfl) ?_ ?_
        · clear h; intro h
          refine seq_in ?_
          refine ops_in ?_
          refine sts_ok 1 (s' := ⟨[(4, (.d (.i .i64 (-1)))), (22, (.d (.b (decide (y3 < 0))))), (21, (.d (.i .i64 y3))), (1, (.d (.i .i64 y3))), (20, (.d (.i .i64 y3))), (19, (.d (.i .i64 y2))), (18, (.d (.sl 10 (p0.where_.map cGExpr)))), (17, (.ptr 2 3)), (16, (.d (.b (decide (y2 < 0))))), (15, (.d (.i .i64 y2))), (1, (.d (.i .i64 y2))), (14, (.d (.i .i64 y2))), (13, (.d (.i .i64 y1))), (12, (.d (.sl 3 (p0.from_.map cGSource)))), (11, (.ptr 2 2)), (10, (.d (.b (decide (y1 < 0))))), (9, (.d (.i .i64 y1))), (1, (.d (.i .i64 y1))), (8, (.d (.i .i64 y1))), (7, (.d (.i .i64 p1))), (6, (.d (.sl 13 (p0.items.map cGItem)))), (5, (.ptr 2 1)), (4, (.d (.i .i64 0))), (2, (.ptr 2 0)), (0, (vGQuery p0)), (1, (.d (.i .i64 p1)))], [(2, [(.d (.b p0.distinct)), (.d (.sl 13 (p0.items.map cGItem))), (.d (.sl 3 (p0.from_.map cGSource))), (.d (.sl 10 (p0.where_.map cGExpr))), (.d (.sl 11 (p0.order.map cGSortKey))), (.d (.i .i64 p0.limit))])]⟩) (by kernel_rfl) ?_
          refine nil_in ?_
          refine next_in ?_
          refine ret_in ?_
          refine thenK_ret ?_
          have h := Option.some.inj h; subst h
          exact ret1_step (v := (.d (.i .i64 (-1)))) (by kernel_rfl) (by kernel_rfl) (by kernel_rfl)
        · clear h; intro h
          refine skip_in ?_
          refine next_in ?_
          refine seq_in ?_
          refine ops_in ?_
          refine sts_ok 3 (s' := ⟨[(25, (.d (.i .i64 y3))), (24, (.d (.sl 11 (p0.order.map cGSortKey)))), (23, (.ptr 2 4)), (22, (.d (.b (decide (y3 < 0))))), (21, (.d (.i .i64 y3))), (1, (.d (.i .i64 y3))), (20, (.d (.i .i64 y3))), (19, (.d (.i .i64 y2))), (18, (.d (.sl 10 (p0.where_.map cGExpr)))), (17, (.ptr 2 3)), (16, (.d (.b (decide (y2 < 0))))), (15, (.d (.i .i64 y2))), (1, (.d (.i .i64 y2))), (14, (.d (.i .i64 y2))), (13, (.d (.i .i64 y1))), (12, (.d (.sl 3 (p0.from_.map cGSource)))), (11, (.ptr 2 2)), (10, (.d (.b (decide (y1 < 0))))), (9, (.d (.i .i64 y1))), (1, (.d (.i .i64 y1))), (8, (.d (.i .i64 y1))), (7, (.d (.i .i64 p1))), (6, (.d (.sl 13 (p0.items.map cGItem)))), (5, (.ptr 2 1)), (4, (.d (.i .i64 0))), (2, (.ptr 2 0)), (0, (vGQuery p0)), (1, (.d (.i .i64 p1)))], [(2, [(.d (.b p0.distinct)), (.d (.sl 13 (p0.items.map cGItem))), (.d (.sl 3 (p0.from_.map cGSource))), (.d (.sl 10 (p0.where_.map cGExpr))), (.d (.sl 11 (p0.order.map cGSortKey))), (.d (.i .i64 p0.limit))])]⟩) (by kernel_rfl) ?_
          refine call_step (m := F_wSzSortKeyS p0.order y3) (args := [(.d (.sl 11 (p0.order.map cGSortKey))), (.d (.i .i64 y3))]) (v' := (fun y => (.d (.i .i64 y)))) h (OK_wSzSortKeyS p0.order y3) (by kernel_rfl) (by kernel_rfl) (fun _ => rfl) ?_
          clear h; intro y4 h
          refine sts_ok 1 (s' := ⟨[(1, (.d (.i .i64 y4))), (26, (.d (.i .i64 y4))), (25, (.d (.i .i64 y3))), (24, (.d (.sl 11 (p0.order.map cGSortKey)))), (23, (.ptr 2 4)), (22, (.d (.b (decide (y3 < 0))))), (21, (.d (.i .i64 y3))), (1, (.d (.i .i64 y3))), (20, (.d (.i .i64 y3))), (19, (.d (.i .i64 y2))), (18, (.d (.sl 10 (p0.where_.map cGExpr)))), (17, (.ptr 2 3)), (16, (.d (.b (decide (y2 < 0))))), (15, (.d (.i .i64 y2))), (1, (.d (.i .i64 y2))), (14, (.d (.i .i64 y2))), (13, (.d (.i .i64 y1))), (12, (.d (.sl 3 (p0.from_.map cGSource)))), (11, (.ptr 2 2)), (10, (.d (.b (decide (y1 < 0))))), (9, (.d (.i .i64 y1))), (1, (.d (.i .i64 y1))), (8, (.d (.i .i64 y1))), (7, (.d (.i .i64 p1))), (6, (.d (.sl 13 (p0.items.map cGItem)))), (5, (.ptr 2 1)), (4, (.d (.i .i64 0))), (2, (.ptr 2 0)), (0, (vGQuery p0)), (1, (.d (.i .i64 p1)))], [(2, [(.d (.b p0.distinct)), (.d (.sl 13 (p0.items.map cGItem))), (.d (.sl 3 (p0.from_.map cGSource))), (.d (.sl 10 (p0.where_.map cGExpr))), (.d (.sl 11 (p0.order.map cGSortKey))), (.d (.i .i64 p0.limit))])]⟩) (by kernel_rfl) ?_
          refine nil_in ?_
          refine next_in ?_
          refine seq_in ?_
          refine seq_in ?_
          refine ops_in ?_
          refine sts_ok 2 (s' := ⟨[(28, (.d (.b (decide (y4 < 0))))), (27, (.d (.i .i64 y4))), (1, (.d (.i .i64 y4))), (26, (.d (.i .i64 y4))), (25, (.d (.i .i64 y3))), (24, (.d (.sl 11 (p0.order.map cGSortKey)))), (23, (.ptr 2 4)), (22, (.d (.b (decide (y3 < 0))))), (21, (.d (.i .i64 y3))), (1, (.d (.i .i64 y3))), (20, (.d (.i .i64 y3))), (19, (.d (.i .i64 y2))), (18, (.d (.sl 10 (p0.where_.map cGExpr)))), (17, (.ptr 2 3)), (16, (.d (.b (decide (y2 < 0))))), (15, (.d (.i .i64 y2))), (1, (.d (.i .i64 y2))), (14, (.d (.i .i64 y2))), (13, (.d (.i .i64 y1))), (12, (.d (.sl 3 (p0.from_.map cGSource)))), (11, (.ptr 2 2)), (10, (.d (.b (decide (y1 < 0))))), (9, (.d (.i .i64 y1))), (1, (.d (.i .i64 y1))), (8, (.d (.i .i64 y1))), (7, (.d (.i .i64 p1))), (6, (.d (.sl 13 (p0.items.map cGItem)))), (5, (.ptr 2 1)), (4, (.d (.i .i64 0))), (2, (.ptr 2 0)), (0, (vGQuery p0)), (1, (.d (.i .i64 p1)))], [(2, [(.d (.b p0.distinct)), (.d (.sl 13 (p0.items.map cGItem))), (.d (.sl 3 (p0.from_.map cGSource))), (.d (.sl 10 (p0.where_.map cGExpr))), (.d (.sl 11 (p0.order.map cGSortKey))), (.d (.i .i64 p0.limit))])]⟩) (by kernel_rfl) ?_
          refine nil_in ?_
          refine next_in ?_
          refine cond_step h (by kernel_rfl) ?_ ?_
          · clear h; intro h
            refine seq_in ?_
            refine ops_in ?_
            refine sts_ok 1 (s' := ⟨[(4, (.d (.i .i64 (-1)))), (28, (.d (.b (decide (y4 < 0))))), (27, (.d (.i .i64 y4))), (1, (.d (.i .i64 y4))), (26, (.d (.i .i64 y4))), (25, (.d (.i .i64 y3))), (24, (.d (.sl 11 (p0.order.map cGSortKey)))), (23, (.ptr 2 4)), (22, (.d (.b (decide (y3 < 0))))), (21, (.d (.i .i64 y3))), (1, (.d (.i .i64 y3))), (20, (.d (.i .i64 y3))), (19, (.d (.i .i64 y2))), (18, (.d (.sl 10 (p0.where_.map cGExpr)))), (17, (.ptr 2 3)), (16, (.d (.b (decide (y2 < 0))))), (15, (.d (.i .i64 y2))), (1, (.d (.i .i64 y2))), (14, (.d (.i .i64 y2))), (13, (.d (.i .i64 y1))), (12, (.d (.sl 3 (p0.from_.map cGSource)))), (11, (.ptr 2 2)), (10, (.d (.b (decide (y1 < 0))))), (9, (.d (.i .i64 y1))), (1, (.d (.i .i64 y1))), (8, (.d (.i .i64 y1))), (7, (.d (.i .i64 p1))), (6, (.d (.sl 13 (p0.items.map cGItem)))), (5, (.ptr 2 1)), (4, (.d (.i .i64 0))), (2, (.ptr 2 0)), (0, (vGQuery p0)), (1, (.d (.i .i64 p1)))], [(2, [(.d (.b p0.distinct)), (.d (.sl 13 (p0.items.map cGItem))), (.d (.sl 3 (p0.from_.map cGSource))), (.d (.sl 10 (p0.where_.map cGExpr))), (.d (.sl 11 (p0.order.map cGSortKey))), (.d (.i .i64 p0.limit))])]⟩) (by kernel_rfl) ?_
            refine nil_in ?_
            refine next_in ?_
            refine ret_in ?_
            refine thenK_ret ?_
            have h := Option.some.inj h; subst h
            exact ret1_step (v := (.d (.i .i64 (-1)))) (by kernel_rfl) (by kernel_rfl) (by kernel_rfl)
          · clear h; intro h
            refine skip_in ?_
            refine next_in ?_
            refine seq_in ?_
            refine ops_in ?_
            refine sts_ok 2 (s' := ⟨[(4, (.d (.i .i64 y4))), (29, (.d (.i .i64 y4))), (28, (.d (.b (decide (y4 < 0))))), (27, (.d (.i .i64 y4))), (1, (.d (.i .i64 y4))), (26, (.d (.i .i64 y4))), (25, (.d (.i .i64 y3))), (24, (.d (.sl 11 (p0.order.map cGSortKey)))), (23, (.ptr 2 4)), (22, (.d (.b (decide (y3 < 0))))), (21, (.d (.i .i64 y3))), (1, (.d (.i .i64 y3))), (20, (.d (.i .i64 y3))), (19, (.d (.i .i64 y2))), (18, (.d (.sl 10 (p0.where_.map cGExpr)))), (17, (.ptr 2 3)), (16, (.d (.b (decide (y2 < 0))))), (15, (.d (.i .i64 y2))), (1, (.d (.i .i64 y2))), (14, (.d (.i .i64 y2))), (13, (.d (.i .i64 y1))), (12, (.d (.sl 3 (p0.from_.map cGSource)))), (11, (.ptr 2 2)), (10, (.d (.b (decide (y1 < 0))))), (9, (.d (.i .i64 y1))), (1, (.d (.i .i64 y1))), (8, (.d (.i .i64 y1))), (7, (.d (.i .i64 p1))), (6, (.d (.sl 13 (p0.items.map cGItem)))), (5, (.ptr 2 1)), (4, (.d (.i .i64 0))), (2, (.ptr 2 0)), (0, (vGQuery p0)), (1, (.d (.i .i64 p1)))], [(2, [(.d (.b p0.distinct)), (.d (.sl 13 (p0.items.map cGItem))), (.d (.sl 3 (p0.from_.map cGSource))), (.d (.sl 10 (p0.where_.map cGExpr))), (.d (.sl 11 (p0.order.map cGSortKey))), (.d (.i .i64 p0.limit))])]⟩) (by kernel_rfl) ?_
            refine nil_in ?_
            refine next_in ?_
            refine ret_in ?_
            have h := Option.some.inj h; subst h
            exact ret1_step (v := (.d (.i .i64 y4))) (by kernel_rfl) (by kernel_rfl) (by kernel_rfl)
  · intro F_wSzSortKeyS_L0 OK_wSzSortKeyS_L0 p0 p1 r h
    refine acalls_of_fn trwSzSortKeyS (Nat.le_of_ble_eq_true rfl) (by simp) ?_
    show avc Try.prog acwSzSortKeyS (qwSzSortKeyS _) ⟨[(0, (.d (.sl 11 (p0.map cGSortKey)))), (1, (.d (.i .i64 p1)))], []⟩
    delta acwSzSortKeyS
    refine seq_in ?_
    refine ops_in ?_
    refine sts_ok 1 (s' := ⟨[(4, (.d (.i .i64 0))), (0, (.d (.sl 11 (p0.map cGSortKey)))), (1, (.d (.i .i64 p1)))], []⟩) (by kernel_rfl) ?_
    refine nil_in ?_
    refine next_in ?_
    refine seq_in ?_
    refine ops_in ?_
    refine sts_ok 2 (s' := ⟨[(7, (.d (.sl 11 (p0.map cGSortKey)))), (6, (.d (.i .i64 p1))), (4, (.d (.i .i64 0))), (0, (.d (.sl 11 (p0.map cGSortKey)))), (1, (.d (.i .i64 p1)))], []⟩) (by kernel_rfl) ?_
    refine p_step (v' := (.d (.i .i64 (p0.length : Int)))) rfl rfl (vop_len (sz := 11) (l := p0) (f := cGSortKey) (by kernel_rfl) (by kernel_rfl)) ?_
    refine sts_ok 2 (s' := ⟨[(1, (.d (.i .i64 (IntKind.wrap .i64 (p1 - (p0.length : Int)))))), (9, (.d (.i .i64 (IntKind.wrap .i64 (p1 - (p0.length : Int)))))), (8, (.d (.i .i64 (p0.length : Int)))), (7, (.d (.sl 11 (p0.map cGSortKey)))), (6, (.d (.i .i64 p1))), (4, (.d (.i .i64 0))), (0, (.d (.sl 11 (p0.map cGSortKey)))), (1, (.d (.i .i64 p1)))], []⟩) (by kernel_rfl) ?_
    refine nil_in ?_
    refine next_in ?_
    refine seq_in ?_
    refine seq_in ?_
    refine ops_in ?_
    refine sts_ok 2 (s' := ⟨[(11, (.d (.b (decide ((IntKind.wrap .i64 (p1 - (p0.length : Int))) < 0))))), (10, (.d (.i .i64 (IntKind.wrap .i64 (p1 - (p0.length : Int)))))), (1, (.d (.i .i64 (IntKind.wrap .i64 (p1 - (p0.length : Int)))))), (9, (.d (.i .i64 (IntKind.wrap .i64 (p1 - (p0.length : Int)))))), (8, (.d (.i .i64 (p0.length : Int)))), (7, (.d (.sl 11 (p0.map cGSortKey)))), (6, (.d (.i .i64 p1))), (4, (.d (.i .i64 0))), (0, (.d (.sl 11 (p0.map cGSortKey)))), (1, (.d (.i .i64 p1)))], []⟩) (by kernel_rfl) ?_
    refine nil_in ?_
    refine next_in ?_
    refine cond_step h (by kernel_rfl) ?_ ?_
    · clear h; intro h
      refine seq_in ?_
      refine ops_in ?_
      refine sts_ok 1 (s' := ⟨[(4, (.d (.i .i64 (-1)))), (11, (.d (.b (decide ((IntKind.wrap .i64 (p1 - (p0.length : Int))) < 0))))), (10, (.d (.i .i64 (IntKind.wrap .i64 (p1 - (p0.length : Int)))))), (1, (.d (.i .i64 (IntKind.wrap .i64 (p1 - (p0.length : Int)))))), (9, (.d (.i .i64 (IntKind.wrap .i64 (p1 - (p0.length : Int)))))), (8, (.d (.i .i64 (p0.length : Int)))), (7, (.d (.sl 11 (p0.map cGSortKey)))), (6, (.d (.i .i64 p1))), (4, (.d (.i .i64 0))), (0, (.d (.sl 11 (p0.map cGSortKey)))), (1, (.d (.i .i64 p1)))], []⟩) (by kernel_rfl) ?_
      refine nil_in ?_
      refine next_in ?_
      refine ret_in ?_
      refine thenK_ret ?_
      have h := Option.some.inj h; subst h
      exact ret1_step (v := (.d (.i .i64 (-1)))) (by kernel_rfl) (by kernel_rfl) (by kernel_rfl)
    · clear h; intro h
      refine skip_in ?_
      refine next_in ?_
      refine seq_in ?_
      refine seq_in ?_
      refine ops_in ?_
      refine sts_ok 1 (s' := ⟨[(5, (.d (.i .i64 0))), (11, (.d (.b (decide ((IntKind.wrap .i64 (p1 - (p0.length : Int))) < 0))))), (10, (.d (.i .i64 (IntKind.wrap .i64 (p1 - (p0.length : Int)))))), (1, (.d (.i .i64 (IntKind.wrap .i64 (p1 - (p0.length : Int)))))), (9, (.d (.i .i64 (IntKind.wrap .i64 (p1 - (p0.length : Int)))))), (8, (.d (.i .i64 (p0.length : Int)))), (7, (.d (.sl 11 (p0.map cGSortKey)))), (6, (.d (.i .i64 p1))), (4, (.d (.i .i64 0))), (0, (.d (.sl 11 (p0.map cGSortKey)))), (1, (.d (.i .i64 p1)))], []⟩) (by kernel_rfl) ?_
      refine nil_in ?_
      refine next_in ?_
      refine block_in ?_
      exact loop_go (s' := stwSzSortKeyS_L0 p0 (IntKind.wrap .i64 (p1 - (p0.length : Int))) 0) (wk_ren [] (by kernel_rfl) (er_cons (vr_same (by kernel_rfl) (by kernel_rfl)) (er_cons (vr_same (by kernel_rfl) (by kernel_rfl)) (er_cons (vr_same (by kernel_rfl) (by kernel_rfl)) (er_nil)))) (br_nil)) (OK_wSzSortKeyS_L0 p0 (IntKind.wrap .i64 (p1 - (p0.length : Int))) 0 _ h)
  · intro F_wSzSortKeyS_L0 F_wSzSortKey OK_wSzSortKeyS_L0 OK_wSzSortKey p0 x1 x5 r h
    delta acwSzSortKeyS_L0
    refine loop_unroll ?_
    refine seq_in ?_
    refine seq_in ?_
    refine ops_in ?_
    refine sts_ok 2 (s' := ⟨(13, (.d (.sl 11 (p0.map cGSortKey)))) :: (12, (.d (.i .i64 x5))) :: (stwSzSortKeyS_L0 p0 x1 x5).env, (stwSzSortKeyS_L0 p0 x1 x5).bx⟩) (by kernel_rfl) ?_
    refine p_step (v' := (.d (.i .i64 (p0.length : Int)))) rfl rfl (vop_len (sz := 11) (l := p0) (f := cGSortKey) (by kernel_rfl) (by kernel_rfl)) ?_
    refine sts_ok 1 (s' := ⟨(15, (.d (.b (decide (x5 < (p0.length : Int)))))) :: (14, (.d (.i .i64 (p0.length : Int)))) :: (13, (.d (.sl 11 (p0.map cGSortKey)))) :: (12, (.d (.i .i64 x5))) :: (stwSzSortKeyS_L0 p0 x1 x5).env, (stwSzSortKeyS_L0 p0 x1 x5).bx⟩) (by kernel_rfl) ?_
    refine nil_in ?_
    refine next_in ?_
    refine cond_step h (by kernel_rfl) ?_ ?_
    · clear h; intro h
      refine skip_in ?_
      refine next_in ?_
      refine seq_in ?_
      refine block_in ?_
      refine seq_in ?_
      refine ops_in ?_
      refine sts_ok 2 (s' := ⟨(19, (.d (.i .i64 x5))) :: (18, (.d (.sl 11 (p0.map cGSortKey)))) :: (15, (.d (.b (decide (x5 < (p0.length : Int)))))) :: (14, (.d (.i .i64 (p0.length : Int)))) :: (13, (.d (.sl 11 (p0.map cGSortKey)))) :: (12, (.d (.i .i64 x5))) :: (stwSzSortKeyS_L0 p0 x1 x5).env, (stwSzSortKeyS_L0 p0 x1 x5).bx⟩) (by kernel_rfl) ?_
      refine v_step (m := idx p0 x5) (v' := fun y => (.rp [(.i .i64 y.expr.kind), (.i .i64 y.expr.op), (.b y.expr.not_), (.i .i64 y.expr.value.kind), (.i .i64 y.expr.value.num), (.s (bs y.expr.value.text)), (.s (bs y.expr.qual)), (.s (bs y.expr.name)), (.sl 10 (y.expr.kids.map cGExpr)), (.sl 6 (y.expr.sub.map cGQuery)), (.b y.desc)])) h rfl rfl (fun y hy => vop_ia (l := p0) (f := cGSortKey) (g := oGSortKey) (k := .i64) hy cGSortKey_eq (by kernel_rfl) (by kernel_rfl) (by kernel_rfl)) ?_
      clear h; intro y1 h
      refine sts_ok 2 (s' := ⟨(22, (.d (.i .i64 x1))) :: (21, (vGSortKey y1)) :: (20, (.rp [(.i .i64 y1.expr.kind), (.i .i64 y1.expr.op), (.b y1.expr.not_), (.i .i64 y1.expr.value.kind), (.i .i64 y1.expr.value.num), (.s (bs y1.expr.value.text)), (.s (bs y1.expr.qual)), (.s (bs y1.expr.name)), (.sl 10 (y1.expr.kids.map cGExpr)), (.sl 6 (y1.expr.sub.map cGQuery)), (.b y1.desc)])) :: (19, (.d (.i .i64 x5))) :: (18, (.d (.sl 11 (p0.map cGSortKey)))) :: (15, (.d (.b (decide (x5 < (p0.length : Int)))))) :: (14, (.d (.i .i64 (p0.length : Int)))) :: (13, (.d (.sl 11 (p0.map cGSortKey)))) :: (12, (.d (.i .i64 x5))) :: (stwSzSortKeyS_L0 p0 x1 x5).env, (stwSzSortKeyS_L0 p0 x1 x5).bx⟩) (by kernel_rfl) ?_
      refine call_step (m := F_wSzSortKey y1 x1) (args := [(vGSortKey y1), (.d (.i .i64 x1))]) (v' := (fun y => (.d (.i .i64 y)))) h (OK_wSzSortKey y1 x1) (by kernel_rfl) (by kernel_rfl) (fun _ => rfl) ?_
      clear h; intro y2 h
      refine sts_ok 1 (s' := ⟨(1, (.d (.i .i64 y2))) :: (23, (.d (.i .i64 y2))) :: (22, (.d (.i .i64 x1))) :: (21, (vGSortKey y1)) :: (20, (.rp [(.i .i64 y1.expr.kind), (.i .i64 y1.expr.op), (.b y1.expr.not_), (.i .i64 y1.expr.value.kind), (.i .i64 y1.expr.value.num), (.s (bs y1.expr.value.text)), (.s (bs y1.expr.qual)), (.s (bs y1.expr.name)), (.sl 10 (y1.expr.kids.map cGExpr)), (.sl 6 (y1.expr.sub.map cGQuery)), (.b y1.desc)])) :: (19, (.d (.i .i64 x5))) :: (18, (.d (.sl 11 (p0.map cGSortKey)))) :: (15, (.d (.b (decide (x5 < (p0.length : Int)))))) :: (14, (.d (.i .i64 (p0.length : Int)))) :: (13, (.d (.sl 11 (p0.map cGSortKey)))) :: (12, (.d (.i .i64 x5))) :: (stwSzSortKeyS_L0 p0 x1 x5).env, (stwSzSortKeyS_L0 p0 x1 x5).bx⟩) (by kernel_rfl) ?_
      refine nil_in ?_
      refine next_in ?_
      refine seq_in ?_
      refine ops_in ?_
      refine sts_ok 2 (s' := ⟨(25, (.d (.b (decide (y2 < 0))))) :: (24, (.d (.i .i64 y2))) :: (1, (.d (.i .i64 y2))) :: (23, (.d (.i .i64 y2))) :: (22, (.d (.i .i64 x1))) :: (21, (vGSortKey y1)) :: (20, (.rp [(.i .i64 y1.expr.kind), (.i .i64 y1.expr.op), (.b y1.expr.not_), (.i .i64 y1.expr.value.kind), (.i .i64 y1.expr.value.num), (.s (bs y1.expr.value.text)), (.s (bs y1.expr.qual)), (.s (bs y1.expr.name)), (.sl 10 (y1.expr.kids.map cGExpr)), (.sl 6 (y1.expr.sub.map cGQuery)), (.b y1.desc)])) :: (19, (.d (.i .i64 x5))) :: (18, (.d (.sl 11 (p0.map cGSortKey)))) :: (15, (.d (.b (decide (x5 < (p0.length : Int)))))) :: (14, (.d (.i .i64 (p0.length : Int)))) :: (13, (.d (.sl 11 (p0.map cGSortKey)))) :: (12, (.d (.i .i64 x5))) :: (stwSzSortKeyS_L0 p0 x1 x5).env, (stwSzSortKeyS_L0 p0 x1 x5).bx⟩) (by kernel_rfl) ?_
      refine nil_in ?_
      refine next_in ?_
      refine cond_step h (by kernel_rfl) ?_ ?_
      · clear h; intro h
        refine seq_in ?_
        refine ops_in ?_
        refine sts_ok 1 (s' := ⟨(4, (.d (.i .i64 (-1)))) :: (25, (.d (.b (decide (y2 < 0))))) :: (24, (.d (.i .i64 y2))) :: (1, (.d (.i .i64 y2))) :: (23, (.d (.i .i64 y2))) :: (22, (.d (.i .i64 x1))) :: (21, (vGSortKey y1)) :: (20, (.rp [(.i .i64 y1.expr.kind), (.i .i64 y1.expr.op), (.b y1.expr.not_), (.i .i64 y1.expr.value.kind), (.i .i64 y1.expr.value.num), (.s (bs y1.expr.value.text)), (.s (bs y1.expr.qual)), (.s (bs y1.expr.name)), (.sl 10 (y1.expr.kids.map cGExpr)), (.sl 6 (y1.expr.sub.map cGQuery)), (.b y1.desc)])) :: (19, (.d (.i .i64 x5))) :: (18, (.d (.sl 11 (p0.map cGSortKey)))) :: (15, (.d (.b (decide (x5 < (p0.length : Int)))))) :: (14, (.d (.i .i64 (p0.length : Int)))) :: (13, (.d (.sl 11 (p0.map cGSortKey)))) :: (12, (.d (.i .i64 x5))) :: (stwSzSortKeyS_L0 p0 x1 x5).env, (stwSzSortKeyS_L0 p0 x1 x5).bx⟩) (by kernel_rfl) ?_
        refine nil_in ?_
        refine next_in ?_
        refine ret_in ?_
        refine blockK_ret ?_
        refine thenK_ret ?_
        refine thenK_ret ?_
        refine blockK_ret ?_
        refine thenK_ret ?_
        have h := Option.some.inj h; subst h
        exact ret1_step (v := (.d (.i .i64 (-1)))) (by kernel_rfl) (by kernel_rfl) (by kernel_rfl)
      · clear h; intro h
        refine skip_in ?_
        refine blockK_norm ?_
        refine next_in ?_
        refine ops_in ?_
        refine sts_ok 3 (s' := ⟨(5, (.d (.i .i64 (IntKind.wrap .i64 (x5 + 1))))) :: (17, (.d (.i .i64 (IntKind.wrap .i64 (x5 + 1))))) :: (16, (.d (.i .i64 x5))) :: (25, (.d (.b (decide (y2 < 0))))) :: (24, (.d (.i .i64 y2))) :: (1, (.d (.i .i64 y2))) :: (23, (.d (.i .i64 y2))) :: (22, (.d (.i .i64 x1))) :: (21, (vGSortKey y1)) :: (20, (.rp [(.i .i64 y1.expr.kind), (.i .i64 y1.expr.op), (.b y1.expr.not_), (.i .i64 y1.expr.value.kind), (.i .i64 y1.expr.value.num), (.s (bs y1.expr.value.text)), (.s (bs y1.expr.qual)), (.s (bs y1.expr.name)), (.sl 10 (y1.expr.kids.map cGExpr)), (.sl 6 (y1.expr.sub.map cGQuery)), (.b y1.desc)])) :: (19, (.d (.i .i64 x5))) :: (18, (.d (.sl 11 (p0.map cGSortKey)))) :: (15, (.d (.b (decide (x5 < (p0.length : Int)))))) :: (14, (.d (.i .i64 (p0.length : Int)))) :: (13, (.d (.sl 11 (p0.map cGSortKey)))) :: (12, (.d (.i .i64 x5))) :: (stwSzSortKeyS_L0 p0 x1 x5).env, (stwSzSortKeyS_L0 p0 x1 x5).bx⟩) (by kernel_rfl) ?_
        refine nil_in ?_
        exact loop_back (s' := stwSzSortKeyS_L0 p0 y2 (IntKind.wrap .i64 (x5 + 1))) (wk_ren [] (by kernel_rfl) (er_cons (vr_same (by kernel_rfl) (by kernel_rfl)) (er_cons (vr_same (by kernel_rfl) (by kernel_rfl)) (er_cons (vr_same (by kernel_rfl) (by kernel_rfl)) (er_nil)))) (br_nil)) (OK_wSzSortKeyS_L0 p0 y2 (IntKind.wrap .i64 (x5 + 1)) _ h)
    · clear h; intro h
      refine exit_in ?_
      refine thenK_exit ?_
      refine thenK_exit ?_
      refine blockK_here ?_
      refine next_in ?_
      refine seq_in ?_
      refine ops_in ?_
      refine sts_ok 2 (s' := ⟨(4, (.d (.i .i64 x1))) :: (26, (.d (.i .i64 x1))) :: (15, (.d (.b (decide (x5 < (p0.length : Int)))))) :: (14, (.d (.i .i64 (p0.length : Int)))) :: (13, (.d (.sl 11 (p0.map cGSortKey)))) :: (12, (.d (.i .i64 x5))) :: (stwSzSortKeyS_L0 p0 x1 x5).env, (stwSzSortKeyS_L0 p0 x1 x5).bx⟩) (by kernel_rfl) ?_
      refine nil_in ?_
      refine next_in ?_
      refine ret_in ?_
      have h := Option.some.inj h; subst h
      exact ret1_step (v := (.d (.i .i64 x1))) (by kernel_rfl) (by kernel_rfl) (by kernel_rfl)
  · intro F_wSzExpr OK_wSzExpr p0 p1 r h
    refine acalls_of_fn trwSzSortKey (Nat.le_of_ble_eq_true rfl) (by simp) ?_
    show avc Try.prog acwSzSortKey (qwSzSortKey _) ⟨[(0, (vGSortKey p0)), (1, (.d (.i .i64 p1)))], []⟩
    delta acwSzSortKey
    refine seq_in ?_
    refine ops_in ?_
    refine sts_ok 2 (s' := ⟨[(4, (.d (.i .i64 0))), (2, (.ptr 2 0)), (0, (vGSortKey p0)), (1, (.d (.i .i64 p1)))], [(2, [(.d (.i .i64 p0.expr.kind)), (.d (.i .i64 p0.expr.op)), (.d (.b p0.expr.not_)), (.d (.i .i64 p0.expr.value.kind)), (.d (.i .i64 p0.expr.value.num)), (.d (.s (bs p0.expr.value.text))), (.d (.s (bs p0.expr.qual))), (.d (.s (bs p0.expr.name))), (.d (.sl 10 (p0.expr.kids.map cGExpr))), (.d (.sl 6 (p0.expr.sub.map cGQuery))), (.d (.b p0.desc))])]⟩) (by kernel_rfl) ?_
    refine nil_in ?_
    refine next_in ?_
    refine seq_in ?_
    refine ops_in ?_
    refine sts_ok 3 (s' := ⟨[(7, (.d (.i .i64 p1))), (6, (vGExpr p0.expr)), (5, (.ptr 2 0)), (4, (.d (.i .i64 0))), (2, (.ptr 2 0)), (0, (vGSortKey p0)), (1, (.d (.i .i64 p1)))], [(2, [(.d (.i .i64 p0.expr.kind)), (.d (.i .i64 p0.expr.op)), (.d (.b p0.expr.not_)), (.d (.i .i64 p0.expr.value.kind)), (.d (.i .i64 p0.expr.value.num)), (.d (.s (bs p0.expr.value.text))), (.d (.s (bs p0.expr.qual))), (.d (.s (bs p0.expr.name))), (.d (.sl 10 (p0.expr.kids.map cGExpr))), (.d (.sl 6 (p0.expr.sub.map cGQuery))), (.d (.b p0.desc))])]⟩) (by kernel_rfl) ?_
    refine call_step (m := F_wSzExpr p0.expr p1) (args := [(vGExpr p0.expr), (.d (.i .i64 p1))]) (v' := (fun y => (.d (.i .i64 y)))) h (OK_wSzExpr p0.expr p1) (by kernel_rfl) (by kernel_rfl) (fun _ => rfl) ?_
    clear h; intro y1 h
    refine sts_ok 1 (s' := ⟨[(1, (.d (.i .i64 y1))), (8, (.d (.i .i64 y1))), (7, (.d (.i .i64 p1))), (6, (vGExpr p0.expr)), (5, (.ptr 2 0)), (4, (.d (.i .i64 0))), (2, (.ptr 2 0)), (0, (vGSortKey p0)), (1, (.d (.i .i64 p1)))], [(2, [(.d (.i .i64 p0.expr.kind)), (.d (.i .i64 p0.expr.op)), (.d (.b p0.expr.not_)), (.d (.i .i64 p0.expr.value.kind)), (.d (.i .i64 p0.expr.value.num)), (.d (.s (bs p0.expr.value.text))), (.d (.s (bs p0.expr.qual))), (.d (.s (bs p0.expr.name))), (.d (.sl 10 (p0.expr.kids.map cGExpr))), (.d (.sl 6 (p0.expr.sub.map cGQuery))), (.d (.b p0.desc))])]⟩) (by kernel_rfl) ?_
    refine nil_in ?_
    refine next_in ?_
    refine seq_in ?_
    refine seq_in ?_
    refine ops_in ?_
    refine sts_ok 2 (s' := ⟨[(10, (.d (.b (decide (y1 < 0))))), (9, (.d (.i .i64 y1))), (1, (.d (.i .i64 y1))), (8, (.d (.i .i64 y1))), (7, (.d (.i .i64 p1))), (6, (vGExpr p0.expr)), (5, (.ptr 2 0)), (4, (.d (.i .i64 0))), (2, (.ptr 2 0)), (0, (vGSortKey p0)), (1, (.d (.i .i64 p1)))], [(2, [(.d (.i .i64 p0.expr.kind)), (.d (.i .i64 p0.expr.op)), (.d (.b p0.expr.not_)), (.d (.i .i64 p0.expr.value.kind)), (.d (.i .i64 p0.expr.value.num)), (.d (.s (bs p0.expr.value.text))), (.d (.s (bs p0.expr.qual))), (.d (.s (bs p0.expr.name))), (.d (.sl 10 (p0.expr.kids.map cGExpr))), (.d (.sl 6 (p0.expr.sub.map cGQuery))), (.d (.b p0.desc))])]⟩) (by kernel_rfl) ?_
    refine nil_in ?_
    refine next_in ?_
    refine cond_step h (by kernel_rfl) ?_ ?_
    · clear h; intro h
      refine seq_in ?_
      refine ops_in ?_
      refine sts_ok 1 (s' := ⟨[(4, (.d (.i .i64 (-1)))), (10, (.d (.b (decide (y1 < 0))))), (9, (.d (.i .i64 y1))), (1, (.d (.i .i64 y1))), (8, (.d (.i .i64 y1))), (7, (.d (.i .i64 p1))), (6, (vGExpr p0.expr)), (5, (.ptr 2 0)), (4, (.d (.i .i64 0))), (2, (.ptr 2 0)), (0, (vGSortKey p0)), (1, (.d (.i .i64 p1)))], [(2, [(.d (.i .i64 p0.expr.kind)), (.d (.i .i64 p0.expr.op)), (.d (.b p0.expr.not_)), (.d (.i .i64 p0.expr.value.kind)), (.d (.i .i64 p0.expr.value.num)), (.d (.s (bs p0.expr.value.text))), (.d (.s (bs p0.expr.qual))), (.d (.s (bs p0.expr.name))), (.d (.sl 10 (p0.expr.kids.map cGExpr))), (.d (.sl 6 (p0.expr.sub.map cGQuery))), (.d (.b p0.desc))])]⟩) (by kernel_rfl) ?_
      refine nil_in ?_
      refine next_in ?_
      refine ret_in ?_
      refine thenK_ret ?_
      have h := Option.some.inj h; subst h
      exact ret1_step (v := (.d (.i .i64 (-1)))) (by kernel_rfl) (by kernel_rfl) (by kernel_rfl)
    · clear h; intro h
      refine skip_in ?_
      refine next_in ?_
      refine seq_in ?_
      refine ops_in ?_
      refine sts_ok 2 (s' := ⟨[(4, (.d (.i .i64 y1))), (11, (.d (.i .i64 y1))), (10, (.d (.b (decide (y1 < 0))))), (9, (.d (.i .i64 y1))), (1, (.d (.i .i64 y1))), (8, (.d (.i .i64 y1))), (7, (.d (.i .i64 p1))), (6, (vGExpr p0.expr)), (5, (.ptr 2 0)), (4, (.d (.i .i64 0))), (2, (.ptr 2 0)), (0, (vGSortKey p0)), (1, (.d (.i .i64 p1)))], [(2, [(.d (.i .i64 p0.expr.kind)), (.d (.i .i64 p0.expr.op)), (.d (.b p0.expr.not_)), (.d (.i .i64 p0.expr.value.kind)), (.d (.i .i64 p0.expr.value.num)), (.d (.s (bs p0.expr.value.text))), (.d (.s (bs p0.expr.qual))), (.d (.s (bs p0.expr.name))), (.d (.sl 10 (p0.expr.kids.map cGExpr))), (.d (.sl 6 (p0.expr.sub.map cGQuery))), (.d (.b p0.desc))])]⟩) (by kernel_rfl) ?_
      refine nil_in ?_
      refine next_in ?_
      refine ret_in ?_
      have h := Option.some.inj h; subst h
      exact ret1_step (v := (.d (.i .i64 y1))) (by kernel_rfl) (by kernel_rfl) (by kernel_rfl)
  · intro F_wSzSourceS_L0 OK_wSzSourceS_L0 p0 p1 r h
    refine acalls_of_fn trwSzSourceS (Nat.le_of_ble_eq_true rfl) (by simp) ?_
    show avc Try.prog acwSzSourceS (qwSzSourceS _) ⟨[(0, (.d (.sl 3 (p0.map cGSource)))), (1, (.d (.i .i64 p1)))], []⟩
    delta acwSzSourceS
    refine seq_in ?_
    refine ops_in ?_
    refine sts_ok 1 (s' := ⟨[(4, (.d (.i .i64 0))), (0, (.d (.sl 3 (p0.map cGSource)))), (1, (.d (.i .i64 p1)))], []⟩) (by kernel_rfl) ?_
    refine nil_in ?_
    refine next_in ?_
    refine seq_in ?_
    refine ops_in ?_
    refine sts_ok 2 (s' := ⟨[(7, (.d (.sl 3 (p0.map cGSource)))), (6, (.d (.i .i64 p1))), (4, (.d (.i .i64 0))), (0, (.d (.sl 3 (p0.map cGSource)))), (1, (.d (.i .i64 p1)))], []⟩) (by kernel_rfl) ?_
    refine p_step (v' := (.d (.i .i64 (p0.length : Int)))) rfl rfl (vop_len (sz := 3) (l := p0) (f := cGSource) (by kernel_rfl) (by kernel_rfl)) ?_
    refine sts_ok 2 (s' := ⟨[(1, (.d (.i .i64 (IntKind.wrap .i64 (p1 - (p0.length : Int)))))), (9, (.d (.i .i64 (IntKind.wrap .i64 (p1 - (p0.length : Int)))))), (8, (.d (.i .i64 (p0.length : Int)))), (7, (.d (.sl 3 (p0.map cGSource)))), (6, (.d (.i .i64 p1))), (4, (.d (.i .i64 0))), (0, (.d (.sl 3 (p0.map cGSource)))), (1, (.d (.i .i64 p1)))], []⟩) (by kernel_rfl) ?_
    refine nil_in ?_
    refine next_in ?_
    refine seq_in ?_
    refine seq_in ?_
    refine ops_in ?_
    refine sts_ok 2 (s' := ⟨[(11, (.d (.b (decide ((IntKind.wrap .i64 (p1 - (p0.length : Int))) < 0))))), (10, (.d (.i .i64 (IntKind.wrap .i64 (p1 - (p0.length : Int)))))), (1, (.d (.i .i64 (IntKind.wrap .i64 (p1 - (p0.length : Int)))))), (9, (.d (.i .i64 (IntKind.wrap .i64 (p1 - (p0.length : Int)))))), (8, (.d (.i .i64 (p0.length : Int)))), (7, (.d (.sl 3 (p0.map cGSource)))), (6, (.d (.i .i64 p1))), (4, (.d (.i .i64 0))), (0, (.d (.sl 3 (p0.map cGSource)))), (1, (.d (.i .i64 p1)))], []⟩) (by kernel_rfl) ?_
    refine nil_in ?_
    refine next_in ?_
    refine cond_step h (by kernel_rfl) ?_ ?_
    · clear h; intro h
      refine seq_in ?_
      refine ops_in ?_
      refine sts_ok 1 (s' := ⟨[(4, (.d (.i .i64 (-1)))), (11, (.d (.b (decide ((IntKind.wrap .i64 (p1 - (p0.length : Int))) < 0))))), (10, (.d (.i .i64 (IntKind.wrap .i64 (p1 - (p0.length : Int)))))), (1, (.d (.i .i64 (IntKind.wrap .i64 (p1 - (p0.length : Int)))))), (9, (.d (.i .i64 (IntKind.wrap .i64 (p1 - (p0.length : Int)))))), (8, (.d (.i .i64 (p0.length : Int)))), (7, (.d (.sl 3 (p0.map cGSource)))), (6, (.d (.i .i64 p1))), (4, (.d (.i .i64 0))), (0, (.d (.sl 3 (p0.map cGSource)))), (1, (.d (.i .i64 p1)))], []⟩) (by kernel_rfl) ?_
      refine nil_in ?_
      refine next_in ?_
      refine ret_in ?_
      refine thenK_ret ?_
      have h := Option.some.inj h; subst h
      exact ret1_step (v := (.d (.i .i64 (-1)))) (by kernel_rfl) (by kernel_rfl) (by kernel_rfl)
    · clear h; intro h
      refine skip_in ?_
      refine next_in ?_
      refine seq_in ?_
      refine seq_in ?_
      refine ops_in ?_
      refine sts_ok 1 (s' := ⟨[(5, (.d (.i .i64 0))), (11, (.d (.b (decide ((IntKind.wrap .i64 (p1 - (p0.length : Int))) < 0))))), (10, (.d (.i .i64 (IntKind.wrap .i64 (p1 - (p0.length : Int)))))), (1, (.d (.i .i64 (IntKind.wrap .i64 (p1 - (p0.length : Int)))))), (9, (.d (.i .i64 (IntKind.wrap .i64 (p1 - (p0.length : Int)))))), (8, (.d (.i .i64 (p0.length : Int)))), (7, (.d (.sl 3 (p0.map cGSource)))), (6, (.d (.i .i64 p1))), (4, (.d (.i .i64 0))), (0, (.d (.sl 3 (p0.map cGSource)))), (1, (.d (.i .i64 p1)))], []⟩) (by kernel_rfl) ?_
      refine nil_in ?_
      refine next_in ?_
      refine block_in ?_
      exact loop_go (s' := stwSzSourceS_L0 p0 (IntKind.wrap .i64 (p1 - (p0.length : Int))) 0) (wk_ren [] (by kernel_rfl) (er_cons (vr_same (by kernel_rfl) (by kernel_rfl)) (er_cons (vr_same (by kernel_rfl) (by kernel_rfl)) (er_cons (vr_same (by kernel_rfl) (by kernel_rfl)) (er_nil)))) (br_nil)) (OK_wSzSourceS_L0 p0 (IntKind.wrap .i64 (p1 - (p0.length : Int))) 0 _ h)
  · intro F_wSzSource F_wSzSourceS_L0 OK_wSzSource OK_wSzSourceS_L0 p0 x1 x5 r h
    delta acwSzSourceS_L0
    refine loop_unroll ?_
    refine seq_in ?_
    refine seq_in ?_
    refine ops_in ?_
    refine sts_ok 2 (s' := ⟨(13, (.d (.sl 3 (p0.map cGSource)))) :: (12, (.d (.i .i64 x5))) :: (stwSzSourceS_L0 p0 x1 x5).env, (stwSzSourceS_L0 p0 x1 x5).bx⟩) (by kernel_rfl) ?_
    refine p_step (v' := (.d (.i .i64 (p0.length : Int)))) rfl rfl (vop_len (sz := 3) (l := p0) (f := cGSource) (by kernel_rfl) (by kernel_rfl)) ?_
    refine sts_ok 1 (s' := ⟨(15, (.d (.b (decide (x5 < (p0.length : Int)))))) :: (14, (.d (.i .i64 (p0.length : Int)))) :: (13, (.d (.sl 3 (p0.map cGSource)))) :: (12, (.d (.i .i64 x5))) :: (stwSzSourceS_L0 p0 x1 x5).env, (stwSzSourceS_L0 p0 x1 x5).bx⟩) (by kernel_rfl) ?_
    refine nil_in ?_
    refine next_in ?_
    refine cond_step h (by kernel_rfl) ?_ ?_
    · clear h; intro h
      refine skip_in ?_
      refine next_in ?_
      refine seq_in ?_
      refine block_in ?_
      refine seq_in ?_
      refine ops_in ?_
      refine sts_ok 2 (s' := ⟨(19, (.d (.i .i64 x5))) :: (18, (.d (.sl 3 (p0.map cGSource)))) :: (15, (.d (.b (decide (x5 < (p0.length : Int)))))) :: (14, (.d (.i .i64 (p0.length : Int)))) :: (13, (.d (.sl 3 (p0.map cGSource)))) :: (12, (.d (.i .i64 x5))) :: (stwSzSourceS_L0 p0 x1 x5).env, (stwSzSourceS_L0 p0 x1 x5).bx⟩) (by kernel_rfl) ?_
      refine v_step (m := idx p0 x5) (v' := fun y => (.rp [(.s (bs y.table)), (.s (bs y.as_)), (.sl 10 (y.on_.map cGExpr))])) h rfl rfl (fun y hy => vop_ia (l := p0) (f := cGSource) (g := oGSource) (k := .i64) hy cGSource_eq (by kernel_rfl) (by kernel_rfl) (by kernel_rfl)) ?_
      clear h; intro y1 h
      refine sts_ok 2 (s' := ⟨(22, (.d (.i .i64 x1))) :: (21, (vGSource y1)) :: (20, (.rp [(.s (bs y1.table)), (.s (bs y1.as_)), (.sl 10 (y1.on_.map cGExpr))])) :: (19, (.d (.i .i64 x5))) :: (18, (.d (.sl 3 (p0.map cGSource)))) :: (15, (.d (.b (decide (x5 < (p0.length : Int)))))) :: (14, (.d (.i .i64 (p0.length : Int)))) :: (13, (.d (.sl 3 (p0.map cGSource)))) :: (12, (.d (.i .i64 x5))) :: (stwSzSourceS_L0 p0 x1 x5).env, (stwSzSourceS_L0 p0 x1 x5).bx⟩) (by kernel_rfl) ?_
      refine call_step (m := F_wSzSource y1 x1) (args := [(vGSource y1), (.d (.i .i64 x1))]) (v' := (fun y => (.d (.i .i64 y)))) h (OK_wSzSource y1 x1) (by kernel_rfl) (by kernel_rfl) (fun _ => rfl) ?_
      clear h; intro y2 h
      refine sts_ok 1 (s' := ⟨(1, (.d (.i .i64 y2))) :: (23, (.d (.i .i64 y2))) :: (22, (.d (.i .i64 x1))) :: (21, (vGSource y1)) :: (20, (.rp [(.s (bs y1.table)), (.s (bs y1.as_)), (.sl 10 (y1.on_.map cGExpr))])) :: (19, (.d (.i .i64 x5))) :: (18, (.d (.sl 3 (p0.map cGSource)))) :: (15, (.d (.b (decide (x5 < (p0.length : Int)))))) :: (14, (.d (.i .i64 (p0.length : Int)))) :: (13, (.d (.sl 3 (p0.map cGSource)))) :: (12, (.d (.i .i64 x5))) :: (stwSzSourceS_L0 p0 x1 x5).env, (stwSzSourceS_L0 p0 x1 x5).bx⟩) (by kernel_rfl) ?_
      refine nil_in ?_
      refine next_in ?_
      refine seq_in ?_
      refine ops_in ?_
      refine sts_ok 2 (s' := ⟨(25, (.d (.b (decide (y2 < 0))))) :: (24, (.d (.i .i64 y2))) :: (1, (.d (.i .i64 y2))) :: (23, (.d (.i .i64 y2))) :: (22, (.d (.i .i64 x1))) :: (21, (vGSource y1)) :: (20, (.rp [(.s (bs y1.table)), (.s (bs y1.as_)), (.sl 10 (y1.on_.map cGExpr))])) :: (19, (.d (.i .i64 x5))) :: (18, (.d (.sl 3 (p0.map cGSource)))) :: (15, (.d (.b (decide (x5 < (p0.length : Int)))))) :: (14, (.d (.i .i64 (p0.length : Int)))) :: (13, (.d (.sl 3 (p0.map cGSource)))) :: (12, (.d (.i .i64 x5))) :: (stwSzSourceS_L0 p0 x1 x5).env, (stwSzSourceS_L0 p0 x1 x5).bx⟩) (by kernel_rfl) ?_
      refine nil_in ?_
      refine next_in ?_
      refine cond_step h (by kernel_rfl) ?_ ?_
      · clear h; intro h
        refine seq_in ?_
        refine ops_in ?_
        refine sts_ok 1 (s' := ⟨(4, (.d (.i .i64 (-1)))) :: (25, (.d (.b (decide (y2 < 0))))) :: (24, (.d (.i .i64 y2))) :: (1, (.d (.i .i64 y2))) :: (23, (.d (.i .i64 y2))) :: (22, (.d (.i .i64 x1))) :: (21, (vGSource y1)) :: (20, (.rp [(.s (bs y1.table)), (.s (bs y1.as_)), (.sl 10 (y1.on_.map cGExpr))])) :: (19, (.d (.i .i64 x5))) :: (18, (.d (.sl 3 (p0.map cGSource)))) :: (15, (.d (.b (decide (x5 < (p0.length : Int)))))) :: (14, (.d (.i .i64 (p0.length : Int)))) :: (13, (.d (.sl 3 (p0.map cGSource)))) :: (12, (.d (.i .i64 x5))) :: (stwSzSourceS_L0 p0 x1 x5).env, (stwSzSourceS_L0 p0 x1 x5).bx⟩) (by kernel_rfl) ?_
        refine nil_in ?_
        refine next_in ?_
        refine ret_in ?_
        refine blockK_ret ?_
        refine thenK_ret ?_
        refine thenK_ret ?_
        refine blockK_ret ?_
        refine thenK_ret ?_
        have h := Option.some.inj h; subst h
        exact ret1_step (v := (.d (.i .i64 (-1)))) (by kernel_rfl) (by kernel_rfl) (by kernel_rfl)
      · clear h; intro h
        refine skip_in ?_
        refine blockK_norm ?_
        refine next_in ?_
        refine ops_in ?_
        refine sts_ok 3 (s' := ⟨(5, (.d (.i .i64 (IntKind.wrap .i64 (x5 + 1))))) :: (17, (.d (.i .i64 (IntKind.wrap .i64 (x5 + 1))))) :: (16, (.d (.i .i64 x5))) :: (25, (.d (.b (decide (y2 < 0))))) :: (24, (.d (.i .i64 y2))) :: (1, (.d (.i .i64 y2))) :: (23, (.d (.i .i64 y2))) :: (22, (.d (.i .i64 x1))) :: (21, (vGSource y1)) :: (20, (.rp [(.s (bs y1.table)), (.s (bs y1.as_)), (.sl 10 (y1.on_.map cGExpr))])) :: (19, (.d (.i .i64 x5))) :: (18, (.d (.sl 3 (p0.map cGSource)))) :: (15, (.d (.b (decide (x5 < (p0.length : Int)))))) :: (14, (.d (.i .i64 (p0.length : Int)))) :: (13, (.d (.sl 3 (p0.map cGSource)))) :: (12, (.d (.i .i64 x5))) :: (stwSzSourceS_L0 p0 x1 x5).env, (stwSzSourceS_L0 p0 x1 x5).bx⟩) (by kernel_rfl) ?_
        refine nil_in ?_
        exact loop_back (s' := stwSzSourceS_L0 p0 y2 (IntKind.wrap .i64 (x5 + 1))) (wk_ren [] (by kernel_rfl) (er_cons (vr_same (by kernel_rfl) (by kernel_rfl)) (er_cons (vr_same (by kernel_rfl) (by kernel_rfl)) (er_cons (vr_same (by kernel_rfl) (by kernel_rfl)) (er_nil)))) (br_nil)) (OK_wSzSourceS_L0 p0 y2 (IntKind.wrap .i64 (x5 + 1)) _ h)
    · clear h; intro h
      refine exit_in ?_
      refine thenK_exit ?_
      refine thenK_exit ?_
      refine blockK_here ?_
      refine next_in ?_
      refine seq_in ?_
      refine ops_in ?_
      refine sts_ok 2 (s' := ⟨(4, (.d (.i .i64 x1))) :: (26, (.d (.i .i64 x1))) :: (15, (.d (.b (decide (x5 < (p0.length : Int)))))) :: (14, (.d (.i .i64 (p0.length : Int)))) :: (13, (.d (.sl 3 (p0.map cGSource)))) :: (12, (.d (.i .i64 x5))) :: (stwSzSourceS_L0 p0 x1 x5).env, (stwSzSourceS_L0 p0 x1 x5).bx⟩) (by kernel_rfl) ?_
      refine nil_in ?_
      refine next_in ?_
      refine ret_in ?_
      have h := Option.some.inj h; subst h
      exact ret1_step (v := (.d (.i .i64 x1))) (by kernel_rfl) (by kernel_rfl) (by kernel_rfl)
  · intro F_wSzItemS_L0 OK_wSzItemS_L0 p0 p1 r h
    refine acalls_of_fn trwSzItemS (Nat.le_of_ble_eq_true rfl) (by simp) ?_
    show avc Try.prog acwSzItemS (qwSzItemS _) ⟨[(0, (.d (.sl 13 (p0.map cGItem)))), (1, (.d (.i .i64 p1)))], []⟩
    delta acwSzItemS
    refine seq_in ?_
    refine ops_in ?_
    refine sts_ok 1 (s' := ⟨[(4, (.d (.i .i64 0))), (0, (.d (.sl 13 (p0.map cGItem)))), (1, (.d (.i .i64 p1)))], []⟩) (by kernel_rfl) ?_
    refine nil_in ?_
    refine next_in ?_
    refine seq_in ?_
    refine ops_in ?_
    refine sts_ok 2 (s' := ⟨[(7, (.d (.sl 13 (p0.map cGItem)))), (6, (.d (.i .i64 p1))), (4, (.d (.i .i64 0))), (0, (.d (.sl 13 (p0.map cGItem)))), (1, (.d (.i .i64 p1)))], []⟩) (by kernel_rfl) ?_
    refine p_step (v' := (.d (.i .i64 (p0.length : Int)))) rfl rfl (vop_len (sz := 13) (l := p0) (f := cGItem) (by kernel_rfl) (by kernel_rfl)) ?_
    refine sts_ok 2 (s' := ⟨[(1, (.d (.i .i64 (IntKind.wrap .i64 (p1 - (p0.length : Int)))))), (9, (.d (.i .i64 (IntKind.wrap .i64 (p1 - (p0.length : Int)))))), (8, (.d (.i .i64 (p0.length : Int)))), (7, (.d (.sl 13 (p0.map cGItem)))), (6, (.d (.i .i64 p1))), (4, (.d (.i .i64 0))), (0, (.d (.sl 13 (p0.map cGItem)))), (1, (.d (.i .i64 p1)))], []⟩) (by kernel_rfl) ?_
    refine nil_in ?_
    refine next_in ?_
    refine seq_in ?_
    refine seq_in ?_
    refine ops_in ?_
    refine sts_ok 2 (s' := ⟨[(11, (.d (.b (decide ((IntKind.wrap .i64 (p1 - (p0.length : Int))) < 0))))), (10, (.d (.i .i64 (IntKind.wrap .i64 (p1 - (p0.length : Int)))))), (1, (.d (.i .i64 (IntKind.wrap .i64 (p1 - (p0.length : Int)))))), (9, (.d (.i .i64 (IntKind.wrap .i64 (p1 - (p0.length : Int)))))), (8, (.d (.i .i64 (p0.length : Int)))), (7, (.d (.sl 13 (p0.map cGItem)))), (6, (.d (.i .i64 p1))), (4, (.d (.i .i64 0))), (0, (.d (.sl 13 (p0.map cGItem)))), (1, (.d (.i .i64 p1)))], []⟩) (by kernel_rfl) ?_
    refine nil_in ?_
    refine next_in ?_
    refine cond_step h (by kernel_rfl) ?_ ?_
    · clear h; intro h
      refine seq_in ?_
      refine ops_in ?_
      refine sts_ok 1 (s' := ⟨[(4, (.d (.i .i64 (-1)))), (11, (.d (.b (decide ((IntKind.wrap .i64 (p1 - (p0.length : Int))) < 0))))), (10, (.d (.i .i64 (IntKind.wrap .i64 (p1 - (p0.length : Int)))))), (1, (.d (.i .i64 (IntKind.wrap .i64 (p1 - (p0.length : Int)))))), (9, (.d (.i .i64 (IntKind.wrap .i64 (p1 - (p0.length : Int)))))), (8, (.d (.i .i64 (p0.length : Int)))), (7, (.d (.sl 13 (p0.map cGItem)))), (6, (.d (.i .i64 p1))), (4, (.d (.i .i64 0))), (0, (.d (.sl 13 (p0.map cGItem)))), (1, (.d (.i .i64 p1)))], []⟩) (by kernel_rfl) ?_
      refine nil_in ?_
      refine next_in ?_
      refine ret_in ?_
      refine thenK_ret ?_
      have h := Option.some.inj h; subst h
      exact ret1_step (v := (.d (.i .i64 (-1)))) (by kernel_rfl) (by kernel_rfl) (by kernel_rfl)
    · clear h; intro h
      refine skip_in ?_
      refine next_in ?_
      refine seq_in ?_
      refine seq_in ?_
      refine ops_in ?_
      refine sts_ok 1 (s' := ⟨[(5, (.d (.i .i64 0))), (11, (.d (.b (decide ((IntKind.wrap .i64 (p1 - (p0.length : Int))) < 0))))), (10, (.d (.i .i64 (IntKind.wrap .i64 (p1 - (p0.length : Int)))))), (1, (.d (.i .i64 (IntKind.wrap .i64 (p1 - (p0.length : Int)))))), (9, (.d (.i .i64 (IntKind.wrap .i64 (p1 - (p0.length : Int)))))), (8, (.d (.i .i64 (p0.length : Int)))), (7, (.d (.sl 13 (p0.map cGItem)))), (6, (.d (.i .i64 p1))), (4, (.d (.i .i64 0))), (0, (.d (.sl 13 (p0.map cGItem)))), (1, (.d (.i .i64 p1)))], []⟩) (by kernel_rfl) ?_
      refine nil_in ?_
      refine next_in ?_
      refine block_in ?_
      exact loop_go (s' := stwSzItemS_L0 p0 (IntKind.wrap .i64 (p1 - (p0.length : Int))) 0) (wk_ren [] (by kernel_rfl) (er_cons (vr_same (by kernel_rfl) (by kernel_rfl)) (er_cons (vr_same (by kernel_rfl) (by kernel_rfl)) (er_cons (vr_same (by kernel_rfl) (by kernel_rfl)) (er_nil)))) (br_nil)) (OK_wSzItemS_L0 p0 (IntKind.wrap .i64 (p1 - (p0.length : Int))) 0 _ h)
  · intro F_wSzItemS_L0 F_wSzItem OK_wSzItemS_L0 OK_wSzItem p0 x1 x5 r h
    delta acwSzItemS_L0
    refine loop_unroll ?_
    refine seq_in ?_
    refine seq_in ?_
    refine ops_in ?_
    refine sts_ok 2 (s' := ⟨(13, (.d (.sl 13 (p0.map cGItem)))) :: (12, (.d (.i .i64 x5))) :: (stwSzItemS_L0 p0 x1 x5).env, (stwSzItemS_L0 p0 x1 x5).bx⟩) (by kernel_rfl) ?_
    refine p_step (v' := (.d (.i .i64 (p0.length : Int)))) rfl rfl (vop_len (sz := 13) (l := p0) (f := cGItem) (by kernel_rfl) (by kernel_rfl)) ?_
    refine sts_ok 1 (s' := ⟨(15, (.d (.b (decide (x5 < (p0.length : Int)))))) :: (14, (.d (.i .i64 (p0.length : Int)))) :: (13, (.d (.sl 13 (p0.map cGItem)))) :: (12, (.d (.i .i64 x5))) :: (stwSzItemS_L0 p0 x1 x5).env, (stwSzItemS_L0 p0 x1 x5).bx⟩) (by kernel_rfl) ?_
    refine nil_in ?_
    refine next_in ?_
    refine cond_step h (by kernel_rfl) ?_ ?_
    · clear h; intro h
      refine skip_in ?_
      refine next_in ?_
      refine seq_in ?_
      refine block_in ?_
      refine seq_in ?_
      refine ops_in ?_
      refine sts_ok 2 (s' := ⟨(19, (.d (.i .i64 x5))) :: (18, (.d (.sl 13 (p0.map cGItem)))) :: (15, (.d (.b (decide (x5 < (p0.length : Int)))))) :: (14, (.d (.i .i64 (p0.length : Int)))) :: (13, (.d (.sl 13 (p0.map cGItem)))) :: (12, (.d (.i .i64 x5))) :: (stwSzItemS_L0 p0 x1 x5).env, (stwSzItemS_L0 p0 x1 x5).bx⟩) (by kernel_rfl) ?_
      refine v_step (m := idx p0 x5) (v' := fun y => (.rp [(.b y.star), (.s (bs y.qual)), (.i .i64 y.expr.kind), (.i .i64 y.expr.op), (.b y.expr.not_), (.i .i64 y.expr.value.kind), (.i .i64 y.expr.value.num), (.s (bs y.expr.value.text)), (.s (bs y.expr.qual)), (.s (bs y.expr.name)), (.sl 10 (y.expr.kids.map cGExpr)), (.sl 6 (y.expr.sub.map cGQuery)), (.s (bs y.as_))])) h rfl rfl (fun y hy => vop_ia (l := p0) (f := cGItem) (g := oGItem) (k := .i64) hy cGItem_eq (by kernel_rfl) (by kernel_rfl) (by kernel_rfl)) ?_
      clear h; intro y1 h
      refine sts_ok 2 (s' := ⟨(22, (.d (.i .i64 x1))) :: (21, (vGItem y1)) :: (20, (.rp [(.b y1.star), (.s (bs y1.qual)), (.i .i64 y1.expr.kind), (.i .i64 y1.expr.op), (.b y1.expr.not_), (.i .i64 y1.expr.value.kind), (.i .i64 y1.expr.value.num), (.s (bs y1.expr.value.text)), (.s (bs y1.expr.qual)), (.s (bs y1.expr.name)), (.sl 10 (y1.expr.kids.map cGExpr)), (.sl 6 (y1.expr.sub.map cGQuery)), (.s (bs y1.as_))])) :: (19, (.d (.i .i64 x5))) :: (18, (.d (.sl 13 (p0.map cGItem)))) :: (15, (.d (.b (decide (x5 < (p0.length : Int)))))) :: (14, (.d (.i .i64 (p0.length : Int)))) :: (13, (.d (.sl 13 (p0.map cGItem)))) :: (12, (.d (.i .i64 x5))) :: (stwSzItemS_L0 p0 x1 x5).env, (stwSzItemS_L0 p0 x1 x5).bx⟩) (by kernel_rfl) ?_
      refine call_step (m := F_wSzItem y1 x1) (args := [(vGItem y1), (.d (.i .i64 x1))]) (v' := (fun y => (.d (.i .i64 y)))) h (OK_wSzItem y1 x1) (by kernel_rfl) (by kernel_rfl) (fun _ => rfl) ?_
      clear h; intro y2 h
      refine sts_ok 1 (s' := ⟨(1, (.d (.i .i64 y2))) :: (23, (.d (.i .i64 y2))) :: (22, (.d (.i .i64 x1))) :: (21, (vGItem y1)) :: (20, (.rp [(.b y1.star), (.s (bs y1.qual)), (.i .i64 y1.expr.kind), (.i .i64 y1.expr.op), (.b y1.expr.not_), (.i .i64 y1.expr.value.kind), (.i .i64 y1.expr.value.num), (.s (bs y1.expr.value.text)), (.s (bs y1.expr.qual)), (.s (bs y1.expr.name)), (.sl 10 (y1.expr.kids.map cGExpr)), (.sl 6 (y1.expr.sub.map cGQuery)), (.s (bs y1.as_))])) :: (19, (.d (.i .i64 x5))) :: (18, (.d (.sl 13 (p0.map cGItem)))) :: (15, (.d (.b (decide (x5 < (p0.length : Int)))))) :: (14, (.d (.i .i64 (p0.length : Int)))) :: (13, (.d (.sl 13 (p0.map cGItem)))) :: (12, (.d (.i .i64 x5))) :: (stwSzItemS_L0 p0 x1 x5).env, (stwSzItemS_L0 p0 x1 x5).bx⟩) (by kernel_rfl) ?_
      refine nil_in ?_
      refine next_in ?_
      refine seq_in ?_
      refine ops_in ?_
      refine sts_ok 2 (s' := ⟨(25, (.d (.b (decide (y2 < 0))))) :: (24, (.d (.i .i64 y2))) :: (1, (.d (.i .i64 y2))) :: (23, (.d (.i .i64 y2))) :: (22, (.d (.i .i64 x1))) :: (21, (vGItem y1)) :: (20, (.rp [(.b y1.star), (.s (bs y1.qual)), (.i .i64 y1.expr.kind), (.i .i64 y1.expr.op), (.b y1.expr.not_), (.i .i64 y1.expr.value.kind), (.i .i64 y1.expr.value.num), (.s (bs y1.expr.value.text)), (.s (bs y1.expr.qual)), (.s (bs y1.expr.name)), (.sl 10 (y1.expr.kids.map cGExpr)), (.sl 6 (y1.expr.sub.map cGQuery)), (.s (bs y1.as_))])) :: (19, (.d (.i .i64 x5))) :: (18, (.d (.sl 13 (p0.map cGItem)))) :: (15, (.d (.b (decide (x5 < (p0.length : Int)))))) :: (14, (.d (.i .i64 (p0.length : Int)))) :: (13, (.d (.sl 13 (p0.map cGItem)))) :: (12, (.d (.i .i64 x5))) :: (stwSzItemS_L0 p0 x1 x5).env, (stwSzItemS_L0 p0 x1 x5).bx⟩) (by kernel_rfl) ?_
      refine nil_in ?_
      refine next_in ?_
      refine cond_step h (by kernel_rfl) ?_ ?_
      · clear h; intro h
        refine seq_in ?_
        refine ops_in ?_
        refine sts_ok 1 (s' := ⟨(4, (.d (.i .i64 (-1)))) :: (25, (.d (.b (decide (y2 < 0))))) :: (24, (.d (.i .i64 y2))) :: (1, (.d (.i .i64 y2))) :: (23, (.d (.i .i64 y2))) :: (22, (.d (.i .i64 x1))) :: (21, (vGItem y1)) :: (20, (.rp [(.b y1.star), (.s (bs y1.qual)), (.i .i64 y1.expr.kind), (.i .i64 y1.expr.op), (.b y1.expr.not_), (.i .i64 y1.expr.value.kind), (.i .i64 y1.expr.value.num), (.s (bs y1.expr.value.text)), (.s (bs y1.expr.qual)), (.s (bs y1.expr.name)), (.sl 10 (y1.expr.kids.map cGExpr)), (.sl 6 (y1.expr.sub.map cGQuery)), (.s (bs y1.as_))])) :: (19, (.d (.i .i64 x5))) :: (18, (.d (.sl 13 (p0.map cGItem)))) :: (15, (.d (.b (decide (x5 < (p0.length : Int)))))) :: (14, (.d (.i .i64 (p0.length : Int)))) :: (13, (.d (.sl 13 (p0.map cGItem)))) :: (12, (.d (.i .i64 x5))) :: (stwSzItemS_L0 p0 x1 x5).env, (stwSzItemS_L0 p0 x1 x5).bx⟩) (by kernel_rfl) ?_
        refine nil_in ?_
        refine next_in ?_
        refine ret_in ?_
        refine blockK_ret ?_
        refine thenK_ret ?_
        refine thenK_ret ?_
        refine blockK_ret ?_
        refine thenK_ret ?_
        have h := Option.some.inj h; subst h
        exact ret1_step (v := (.d (.i .i64 (-1)))) (by kernel_rfl) (by kernel_rfl) (by kernel_rfl)
      · clear h; intro h
        refine skip_in ?_
        refine blockK_norm ?_
        refine next_in ?_
        refine ops_in ?_
        refine sts_ok 3 (s' := ⟨(5, (.d (.i .i64 (IntKind.wrap .i64 (x5 + 1))))) :: (17, (.d (.i .i64 (IntKind.wrap .i64 (x5 + 1))))) :: (16, (.d (.i .i64 x5))) :: (25, (.d (.b (decide (y2 < 0))))) :: (24, (.d (.i .i64 y2))) :: (1, (.d (.i .i64 y2))) :: (23, (.d (.i .i64 y2))) :: (22, (.d (.i .i64 x1))) :: (21, (vGItem y1)) :: (20, (.rp [(.b y1.star), (.s (bs y1.qual)), (.i .i64 y1.expr.kind), (.i .i64 y1.expr.op), (.b y1.expr.not_), (.i .i64 y1.expr.value.kind), (.i .i64 y1.expr.value.num), (.s (bs y1.expr.value.text)), (.s (bs y1.expr.qual)), (.s (bs y1.expr.name)), (.sl 10 (y1.expr.kids.map cGExpr)), (.sl 6 (y1.expr.sub.map cGQuery)), (.s (bs y1.as_))])) :: (19, (.d (.i .i64 x5))) :: (18, (.d (.sl 13 (p0.map cGItem)))) :: (15, (.d (.b (decide (x5 < (p0.length : Int)))))) :: (14, (.d (.i .i64 (p0.length : Int)))) :: (13, (.d (.sl 13 (p0.map cGItem)))) :: (12, (.d (.i .i64 x5))) :: (stwSzItemS_L0 p0 x1 x5).env, (stwSzItemS_L0 p0 x1 x5).bx⟩) (by kernel_rfl) ?_
        refine nil_in ?_
        exact loop_back (s' := stwSzItemS_L0 p0 y2 (IntKind.wrap .i64 (x5 + 1))) (wk_ren [] (by kernel_rfl) (er_cons (vr_same (by kernel_rfl) (by kernel_rfl)) (er_cons (vr_same (by kernel_rfl) (by kernel_rfl)) (er_cons (vr_same (by kernel_rfl) (by kernel_rfl)) (er_nil)))) (br_nil)) (OK_wSzItemS_L0 p0 y2 (IntKind.wrap .i64 (x5 + 1)) _ h)
    · clear h; intro h
      refine exit_in ?_
      refine thenK_exit ?_
      refine thenK_exit ?_
      refine blockK_here ?_
      refine next_in ?_
      refine seq_in ?_
      refine ops_in ?_
      refine sts_ok 2 (s' := ⟨(4, (.d (.i .i64 x1))) :: (26, (.d (.i .i64 x1))) :: (15, (.d (.b (decide (x5 < (p0.length : Int)))))) :: (14, (.d (.i .i64 (p0.length : Int)))) :: (13, (.d (.sl 13 (p0.map cGItem)))) :: (12, (.d (.i .i64 x5))) :: (stwSzItemS_L0 p0 x1 x5).env, (stwSzItemS_L0 p0 x1 x5).bx⟩) (by kernel_rfl) ?_
      refine nil_in ?_
      refine next_in ?_
      refine ret_in ?_
      have h := Option.some.inj h; subst h
      exact ret1_step (v := (.d (.i .i64 x1))) (by kernel_rfl) (by kernel_rfl) (by kernel_rfl)
  · intro F_wSzExpr OK_wSzExpr p0 p1 r h
    refine acalls_of_fn trwSzItem (Nat.le_of_ble_eq_true rfl) (by simp) ?_
    show avc Try.prog acwSzItem (qwSzItem _) ⟨[(0, (vGItem p0)), (1, (.d (.i .i64 p1)))], []⟩
    delta acwSzItem
    refine seq_in ?_
    refine ops_in ?_
    refine sts_ok 2 (s' := ⟨[(4, (.d (.i .i64 0))), (2, (.ptr 2 0)), (0, (vGItem p0)), (1, (.d (.i .i64 p1)))], [(2, [(.d (.b p0.star)), (.d (.s (bs p0.qual))), (.d (.i .i64 p0.expr.kind)), (.d (.i .i64 p0.expr.op)), (.d (.b p0.expr.not_)), (.d (.i .i64 p0.expr.value.kind)), (.d (.i .i64 p0.expr.value.num)), (.d (.s (bs p0.expr.value.text))), (.d (.s (bs p0.expr.qual))), (.d (.s (bs p0.expr.name))), (.d (.sl 10 (p0.expr.kids.map cGExpr))), (.d (.sl 6 (p0.expr.sub.map cGQuery))), (.d (.s (bs p0.as_)))])]⟩) (by kernel_rfl) ?_
    refine nil_in ?_
    refine next_in ?_
    refine seq_in ?_
    refine ops_in ?_
    refine sts_ok 6 (s' := ⟨[(1, (.d (.i .i64 (IntKind.wrap .i64 (p1 - (p0.qual.length : Int)))))), (9, (.d (.i .i64 (IntKind.wrap .i64 (p1 - (p0.qual.length : Int)))))), (8, (.d (.i .i64 (p0.qual.length : Int)))), (7, (.d (.s (bs p0.qual)))), (6, (.ptr 2 1)), (5, (.d (.i .i64 p1))), (4, (.d (.i .i64 0))), (2, (.ptr 2 0)), (0, (vGItem p0)), (1, (.d (.i .i64 p1)))], [(2, [(.d (.b p0.star)), (.d (.s (bs p0.qual))), (.d (.i .i64 p0.expr.kind)), (.d (.i .i64 p0.expr.op)), (.d (.b p0.expr.not_)), (.d (.i .i64 p0.expr.value.kind)), (.d (.i .i64 p0.expr.value.num)), (.d (.s (bs p0.expr.value.text))), (.d (.s (bs p0.expr.qual))), (.d (.s (bs p0.expr.name))), (.d (.sl 10 (p0.expr.kids.map cGExpr))), (.d (.sl 6 (p0.expr.sub.map cGQuery))), (.d (.s (bs p0.as_)))])]⟩) (by kernel_rfl) ?_
    refine nil_in ?_
    refine next_in ?_
    refine seq_in ?_
    refine seq_in ?_
    refine ops_in ?_
    refine sts_ok 2 (s' := ⟨[(11, (.d (.b (decide ((IntKind.wrap .i64 (p1 - (p0.qual.length : Int))) < 0))))), (10, (.d (.i .i64 (IntKind.wrap .i64 (p1 - (p0.qual.length : Int)))))), (1, (.d (.i .i64 (IntKind.wrap .i64 (p1 - (p0.qual.length : Int)))))), (9, (.d (.i .i64 (IntKind.wrap .i64 (p1 - (p0.qual.length : Int)))))), (8, (.d (.i .i64 (p0.qual.length : Int)))), (7, (.d (.s (bs p0.qual)))), (6, (.ptr 2 1)), (5, (.d (.i .i64 p1))), (4, (.d (.i .i64 0))), (2, (.ptr 2 0)), (0, (vGItem p0)), (1, (.d (.i .i64 p1)))], [(2, [(.d (.b p0.star)), (.d (.s (bs p0.qual))), (.d (.i .i64 p0.expr.kind)), (.d (.i .i64 p0.expr.op)), (.d (.b p0.expr.not_)), (.d (.i .i64 p0.expr.value.kind)), (.d (.i .i64 p0.expr.value.num)), (.d (.s (bs p0.expr.value.text))), (.d (.s (bs p0.expr.qual))), (.d (.s (bs p0.expr.name))), (.d (.sl 10 (p0.expr.kids.map cGExpr))), (.d (.sl 6 (p0.expr.sub.map cGQuery))), (.d (.s (bs p0.as_)))])]⟩) (by kernel_rfl) ?_
    refine nil_in ?_
    refine next_in ?_
    refine cond_step h (by kernel_rfl) ?_ ?_
    · clear h; intro h
      refine seq_in ?_
      refine ops_in ?_
      refine sts_ok 1 (s' := ⟨[(4, (.d (.i .i64 (-1)))), (11, (.d (.b (decide ((IntKind.wrap .i64 (p1 - (p0.qual.length : Int))) < 0))))), (10, (.d (.i .i64 (IntKind.wrap .i64 (p1 - (p0.qual.length : Int)))))), (1, (.d (.i .i64 (IntKind.wrap .i64 (p1 - (p0.qual.length : Int)))))), (9, (.d (.i .i64 (IntKind.wrap .i64 (p1 - (p0.qual.length : Int)))))), (8, (.d (.i .i64 (p0.qual.length : Int)))), (7, (.d (.s (bs p0.qual)))), (6, (.ptr 2 1)), (5, (.d (.i .i64 p1))), (4, (.d (.i .i64 0))), (2, (.ptr 2 0)), (0, (vGItem p0)), (1, (.d (.i .i64 p1)))], [(2, [(.d (.b p0.star)), (.d (.s (bs p0.qual))), (.d (.i .i64 p0.expr.kind)), (.d (.i .i64 p0.expr.op)), (.d (.b p0.expr.not_)), (.d (.i .i64 p0.expr.value.kind)), (.d (.i .i64 p0.expr.value.num)), (.d (.s (bs p0.expr.value.text))), (.d (.s (bs p0.expr.qual))), (.d (.s (bs p0.expr.name))), (.d (.sl 10 (p0.expr.kids.map cGExpr))), (.d (.sl 6 (p0.expr.sub.map cGQuery))), (.d (.s (bs p0.as_)))])]⟩) (by kernel_rfl) ?_
      refine nil_in ?_
      refine next_in ?_
      refine ret_in ?_
      refine thenK_ret ?_
      have h := Option.some.inj h; subst h
      exact ret1_step (v := (.d (.i .i64 (-1)))) (by kernel_rfl) (by kernel_rfl) (by kernel_rfl)
    · clear h; intro h
      refine skip_in ?_
      refine next_in ?_
      refine seq_in ?_
      refine ops_in ?_
      refine sts_ok 3 (s' := ⟨[(14, (.d (.i .i64 (IntKind.wrap .i64 (p1 - (p0.qual.length : Int)))))), (13, (vGExpr p0.expr)), (12, (.ptr 2 2)), (11, (.d (.b (decide ((IntKind.wrap .i64 (p1 - (p0.qual.length : Int))) < 0))))), (10, (.d (.i .i64 (IntKind.wrap .i64 (p1 - (p0.qual.length : Int)))))), (1, (.d (.i .i64 (IntKind.wrap .i64 (p1 - (p0.qual.length : Int)))))), (9, (.d (.i .i64 (IntKind.wrap .i64 (p1 - (p0.qual.length : Int)))))), (8, (.d (.i .i64 (p0.qual.length : Int)))), (7, (.d (.s (bs p0.qual)))), (6, (.ptr 2 1)), (5, (.d (.i .i64 p1))), (4, (.d (.i .i64 0))), (2, (.ptr 2 0)), (0, (vGItem p0)), (1, (.d (.i .i64 p1)))], [(2, [(.d (.b p0.star)), (.d (.s (bs p0.qual))), (.d (.i .i64 p0.expr.kind)), (.d (.i .i64 p0.expr.op)), (.d (.b p0.expr.not_)), (.d (.i .i64 p0.expr.value.kind)), (.d (.i .i64 p0.expr.value.num)), (.d (.s (bs p0.expr.value.text))), (.d (.s (bs p0.expr.qual))), (.d (.s (bs p0.expr.name))), (.d (.sl 10 (p0.expr.kids.map cGExpr))), (.d (.sl 6 (p0.expr.sub.map cGQuery))), (.d (.s (bs p0.as_)))])]⟩) (by kernel_rfl) ?_
      refine call_step (m := F_wSzExpr p0.expr (IntKind.wrap .i64 (p1 - (p0.qual.length : Int)))) (args := [(vGExpr p0.expr), (.d (.i .i64 (IntKind.wrap .i64 (p1 - (p0.qual.length : Int)))))]) (v' := (fun y => (.d (.i .i64 y)))) h (OK_wSzExpr p0.expr (IntKind.wrap .i64 (p1 - (p0.qual.length : Int)))) (by kernel_rfl) (by kernel_rfl) (fun _ => rfl) ?_
      clear h; intro y1 h
      refine sts_ok 1 (s' := ⟨[(1, (.d (.i .i64 y1))), (15, (.d (.i .i64 y1))), (14, (.d (.i .i64 (IntKind.wrap .i64 (p1 - (p0.qual.length : Int)))))), (13, (vGExpr p0.expr)), (12, (.ptr 2 2)), (11, (.d (.b (decide ((IntKind.wrap .i64 (p1 - (p0.qual.length : Int))) < 0))))), (10, (.d (.i .i64 (IntKind.wrap .i64 (p1 - (p0.qual.length : Int)))))), (1, (.d (.i .i64 (IntKind.wrap .i64 (p1 - (p0.qual.length : Int)))))), (9, (.d (.i .i64 (IntKind.wrap .i64 (p1 - (p0.qual.length : Int)))))), (8, (.d (.i .i64 (p0.qual.length : Int)))), (7, (.d (.s (bs p0.qual)))), (6, (.ptr 2 1)), (5, (.d (.i .i64 p1))), (4, (.d (.i .i64 0))), (2, (.ptr 2 0)), (0, (vGItem p0)), (1, (.d (.i .i64 p1)))], [(2, [(.d (.b p0.star)), (.d (.s (bs p0.qual))), (.d (.i .i64 p0.expr.kind)), (.d (.i .i64 p0.expr.op)), (.d (.b p0.expr.not_)), (.d (.i .i64 p0.expr.value.kind)), (.d (.i .i64 p0.expr.value.num)), (.d (.s (bs p0.expr.value.text))), (.d (.s (bs p0.expr.qual))), (.d (.s (bs p0.expr.name))), (.d (.sl 10 (p0.expr.kids.map cGExpr))), (.d (.sl 6 (p0.expr.sub.map cGQuery))), (.d (.s (bs p0.as_)))])]⟩) (by kernel_rfl) ?_
      refine nil_in ?_
      refine next_in ?_
      refine seq_in ?_
      refine seq_in ?_
      refine ops_in ?_
      refine sts_ok 2 (s' := ⟨[(17, (.d (.b (decide (y1 < 0))))), (16, (.d (.i .i64 y1))), (1, (.d (.i .i64 y1))), (15, (.d (.i .i64 y1))), (14, (.d (.i .i64 (IntKind.wrap .i64 (p1 - (p0.qual.length : Int)))))), (13, (vGExpr p0.expr)), (12, (.ptr 2 2)), (11, (.d (.b (decide ((IntKind.wrap .i64 (p1 - (p0.qual.length : Int))) < 0))))), (10, (.d (.i .i64 (IntKind.wrap .i64 (p1 - (p0.qual.length : Int)))))), (1, (.d (.i .i64 (IntKind.wrap .i64 (p1 - (p0.qual.length : Int)))))), (9, (.d (.i .i64 (IntKind.wrap .i64 (p1 - (p0.qual.length : Int)))))), (8, (.d (.i .i64 (p0.qual.length : Int)))), (7, (.d (.s (bs p0.qual)))), (6, (.ptr 2 1)), (5, (.d (.i .i64 p1))), (4, (.d (.i .i64 0))), (2, (.ptr 2 0)), (0, (vGItem p0)), (1, (.d (.i .i64 p1)))], [(2, [(.d (.b p0.star)), (.d (.s (bs p0.qual))), (.d (.i .i64 p0.expr.kind)), (.d (.i .i64 p0.expr.op)), (.d (.b p0.expr.not_)), (.d (.i .i64 p0.expr.value.kind)), (.d (.i .i64 p0.expr.value.num)), (.d (.s (bs p0.expr.value.text))), (.d (.s (bs p0.expr.qual))), (.d (.s (bs p0.expr.name))), (.d (.sl 10 (p0.expr.kids.map cGExpr))), (.d (.sl 6 (p0.expr.sub.map cGQuery))), (.d (.s (bs p0.as_)))])]⟩) (by kernel_rfl) ?_
      refine nil_in ?_
      refine next_in ?_
      refine cond_step h (by kernel_rfl) ?_ ?_
      · clear h; intro h
        refine seq_in ?_
        refine ops_in ?_
        refine sts_ok 1 (s' := ⟨[(4, (.d (.i .i64 (-1)))), (17, (.d (.b (decide (y1 < 0))))), (16, (.d (.i .i64 y1))), (1, (.d (.i .i64 y1))), (15, (.d (.i .i64 y1))), (14, (.d (.i .i64 (IntKind.wrap .i64 (p1 - (p0.qual.length : Int)))))), (13, (vGExpr p0.expr)), (12, (.ptr 2 2)), (11, (.d (.b (decide ((IntKind.wrap .i64 (p1 - (p0.qual.length : Int))) < 0))))), (10, (.d (.i .i64 (IntKind.wrap .i64 (p1 - (p0.qual.length : Int)))))), (1, (.d (.i .i64 (IntKind.wrap .i64 (p1 - (p0.qual.length : Int)))))), (9, (.d (.i .i64 (IntKind.wrap .i64 (p1 - (p0.qual.length : Int)))))), (8, (.d (.i .i64 (p0.qual.length : Int)))), (7, (.d (.s (bs p0.qual)))), (6, (.ptr 2 1)), (5, (.d (.i .i64 p1))), (4, (.d (.i .i64 0))), (2, (.ptr 2 0)), (0, (vGItem p0)), (1, (.d (.i .i64 p1)))], [(2, [(.d (.b p0.star)), (.d (.s (bs p0.qual))), (.d (.i .i64 p0.expr.kind)), (.d (.i .i64 p0.expr.op)), (.d (.b p0.expr.not_)), (.d (.i .i64 p0.expr.value.kind)), (.d (.i .i64 p0.expr.value.num)), (.d (.s (bs p0.expr.value.text))), (.d (.s (bs p0.expr.qual))), (.d (.s (bs p0.expr.name))), (.d (.sl 10 (p0.expr.kids.map cGExpr))), (.d (.sl 6 (p0.expr.sub.map cGQuery))), (.d (.s (bs p0.as_)))])]⟩) (by kernel_rfl) ?_
        refine nil_in ?_
        refine next_in ?_
        refine ret_in ?_
        refine thenK_ret ?_
        have h := Option.some.inj h; subst h
        exact ret1_step (v := (.d (.i .i64 (-1)))) (by kernel_rfl) (by kernel_rfl) (by kernel_rfl)
      · clear h; intro h
        refine skip_in ?_
        refine next_in ?_
        refine seq_in ?_
        refine ops_in ?_
        refine sts_ok 6 (s' := ⟨[(1, (.d (.i .i64 (IntKind.wrap .i64 (y1 - (p0.as_.length : Int)))))), (22, (.d (.i .i64 (IntKind.wrap .i64 (y1 - (p0.as_.length : Int)))))), (21, (.d (.i .i64 (p0.as_.length : Int)))), (20, (.d (.s (bs p0.as_)))), (19, (.ptr 2 12)), (18, (.d (.i .i64 y1))), (17, (.d (.b (decide (y1 < 0))))), (16, (.d (.i .i64 y1))), (1, (.d (.i .i64 y1))), (15, (.d (.i .i64 y1))), (14, (.d (.i .i64 (IntKind.wrap .i64 (p1 - (p0.qual.length : Int)))))), (13, (vGExpr p0.expr)), (12, (.ptr 2 2)), (11, (.d (.b (decide ((IntKind.wrap .i64 (p1 - (p0.qual.length : Int))) < 0))))), (10, (.d (.i .i64 (IntKind.wrap .i64 (p1 - (p0.qual.length : Int)))))), (1, (.d (.i .i64 (IntKind.wrap .i64 (p1 - (p0.qual.length : Int)))))), (9, (.d (.i .i64 (IntKind.wrap .i64 (p1 - (p0.qual.length : Int)))))), (8, (.d (.i .i64 (p0.qual.length : Int)))), (7, (.d (.s (bs p0.qual)))), (6, (.ptr 2 1)), (5, (.d (.i .i64 p1))), (4, (.d (.i .i64 0))), (2, (.ptr 2 0)), (0, (vGItem p0)), (1, (.d (.i .i64 p1)))], [(2, [(.d (.b p0.star)), (.d (.s (bs p0.qual))), (.d (.i .i64 p0.expr.kind)), (.d (.i .i64 p0.expr.op)), (.d (.b p0.expr.not_)), (.d (.i .i64 p0.expr.value.kind)), (.d (.i .i64 p0.expr.value.num)), (.d (.s (bs p0.expr.value.text))), (.d (.s (bs p0.expr.qual))), (.d (.s (bs p0.expr.name))), (.d (.sl 10 (p0.expr.kids.map cGExpr))), (.d (.sl 6 (p0.expr.sub.map cGQuery))), (.d (.s (bs p0.as_)))])]⟩) (by kernel_rfl) ?_
        refine nil_in ?_
        refine next_in ?_
        refine seq_in ?_
        refine seq_in ?_
        refine ops_in ?_
        refine sts_ok 2 (s' := ⟨[(24, (.d (.b (decide ((IntKind.wrap .i64 (y1 - (p0.as_.length : Int))) < 0))))), (23, (.d (.i .i64 (IntKind.wrap .i64 (y1 - (p0.as_.length : Int)))))), (1, (.d (.i .i64 (IntKind.wrap .i64 (y1 - (p0.as_.length : Int)))))), (22, (.d (.i .i64 (IntKind.wrap .i64 (y1 - (p0.as_.length : Int)))))), (21, (.d (.i .i64 (p0.as_.length : Int)))), (20, (.d (.s (bs p0.as_)))), (19, (.ptr 2 12)), (18, (.d (.i .i64 y1))), (17, (.d (.b (decide (y1 < 0))))), (16, (.d (.i .i64 y1))), (1, (.d (.i .i64 y1))), (15, (.d (.i .i64 y1))), (14, (.d (.i .i64 (IntKind.wrap .i64 (p1 - (p0.qual.length : Int)))))), (13, (vGExpr p0.expr)), (12, (.ptr 2 2)), (11, (.d (.b (decide ((IntKind.wrap .i64 (p1 - (p0.qual.length : Int))) < 0))))), (10, (.d (.i .i64 (IntKind.wrap .i64 (p1 - (p0.qual.length : Int)))))), (1, (.d (.i .i64 (IntKind.wrap .i64 (p1 - (p0.qual.length : Int)))))), (9, (.d (.i .i64 (IntKind.wrap .i64 (p1 - (p0.qual.length : Int)))))), (8, (.d (.i .i64 (p0.qual.length : Int)))), (7, (.d (.s (bs p0.qual)))), (6, (.ptr 2 1)), (5, (.d (.i .i64 p1))), (4, (.d (.i .i64 0))), (2, (.ptr 2 0)), (0, (vGItem p0)), (1, (.d (.i .i64 p1)))], [(2, [(.d (.b p0.star)), (.d (.s (bs p0.qual))), (.d (.i .i64 p0.expr.kind)), (.d (.i .i64 p0.expr.op)), (.d (.b p0.expr.not_)), (.d (.i .i64 p0.expr.value.kind)), (.d (.i .i64 p0.expr.value.num)), (.d (.s (bs p0.expr.value.text))), (.d (.s (bs p0.expr.qual))), (.d (.s (bs p0.expr.name))), (.d (.sl 10 (p0.expr.kids.map cGExpr))), (.d (.sl 6 (p0.expr.sub.map cGQuery))), (.d (.s (bs p0.as_)))])]⟩) (by kernel_rfl) ?_
        refine nil_in ?_
        refine next_in ?_
        refine cond_step h (by kernel_rfl) ?_ ?_
        · clear h; intro h
          refine seq_in ?_
          refine ops_in ?_
          refine sts_ok 1 (s' := ⟨[(4, (.d (.i .i64 (-1)))), (24, (.d (.b (decide ((IntKind.wrap .i64 (y1 - (p0.as_.length : Int))) < 0))))), (23, (.d (.i .i64 (IntKind.wrap .i64 (y1 - (p0.as_.length : Int)))))), (1, (.d (.i .i64 (IntKind.wrap .i64 (y1 - (p0.as_.length : Int)))))), (22, (.d (.i .i64 (IntKind.wrap .i64 (y1 - (p0.as_.length : Int)))))), (21, (.d (.i .i64 (p0.as_.length : Int)))), (20, (.d (.s (bs p0.as_)))), (19, (.ptr 2 12)), (18, (.d (.i .i64 y1))), (17, (.d (.b (decide (y1 < 0))))), (16, (.d (.i .i64 y1))), (1, (.d (.i .i64 y1))), (15, (.d (.i .i64 y1))), (14, (.d (.i .i64 (IntKind.wrap .i64 (p1 - (p0.qual.length : Int)))))), (13, (vGExpr p0.expr)), (12, (.ptr 2 2)), (11, (.d (.b (decide ((IntKind.wrap .i64 (p1 - (p0.qual.length : Int))) < 0))))), (10, (.d (.i .i64 (IntKind.wrap .i64 (p1 - (p0.qual.length : Int)))))), (1, (.d (.i .i64 (IntKind.wrap .i64 (p1 - (p0.qual.length : Int)))))), (9, (.d (.i .i64 (IntKind.wrap .i64 (p1 - (p0.qual.length : Int)))))), (8, (.d (.i .i64 (p0.qual.length : Int)))), (7, (.d (.s (bs p0.qual)))), (6, (.ptr 2 1)), (5, (.d (.i .i64 p1))), (4, (.d (.i .i64 0))), (2, (.ptr 2 0)), (0, (vGItem p0)), (1, (.d (.i .i64 p1)))], [(2, [(.d (.b p0.star)), (.d (.s (bs p0.qual))), (.d (.i .i64 p0.expr.kind)), (.d (.i .i64 p0.expr.op)), (.d (.b p0.expr.not_)), (.d (.i .i64 p0.expr.value.kind)), (.d (.i .i64 p0.expr.value.num)), (.d (.s (bs p0.expr.value.text))), (.d (.s (bs p0.expr.qual))), (.d (.s (bs p0.expr.name))), (.d (.sl 10 (p0.expr.kids.map cGExpr))), (.d (.sl 6 (p0.expr.sub.map cGQuery))), (.d (.s (bs p0.as_)))])]⟩) (by kernel_rfl) ?_
          refine nil_in ?_
          refine next_in ?_
          refine ret_in ?_
          refine thenK_ret ?_
          have h := Option.some.inj h; subst h
          exact ret1_step (v := (.d (.i .i64 (-1)))) (by kernel_rfl) (by kernel_rfl) (by kernel_rfl)
        · clear h; intro h
          refine skip_in ?_
          refine next_in ?_
          refine seq_in ?_
          refine ops_in ?_
          refine sts_ok 2 (s' := ⟨[(4, (.d (.i .i64 (IntKind.wrap .i64 (y1 - (p0.as_.length : Int)))))), (25, (.d (.i .i64 (IntKind.wrap .i64 (y1 - (p0.as_.length : Int)))))), (24, (.d (.b (decide ((IntKind.wrap .i64 (y1 - (p0.as_.length : Int))) < 0))))), (23, (.d (.i .i64 (IntKind.wrap .i64 (y1 - (p0.as_.length : Int)))))), (1, (.d (.i .i64 (IntKind.wrap .i64 (y1 - (p0.as_.length : Int)))))), (22, (.d (.i .i64 (IntKind.wrap .i64 (y1 - (p0.as_.length : Int)))))), (21, (.d (.i .i64 (p0.as_.length : Int)))), (20, (.d (.s (bs p0.as_)))), (19, (.ptr 2 12)), (18, (.d (.i .i64 y1))), (17, (.d (.b (decide (y1 < 0))))), (16, (.d (.i .i64 y1))), (1, (.d (.i .i64 y1))), (15, (.d (.i .i64 y1))), (14, (.d (.i .i64 (IntKind.wrap .i64 (p1 - (p0.qual.length : Int)))))), (13, (vGExpr p0.expr)), (12, (.ptr 2 2)), (11, (.d (.b (decide ((IntKind.wrap .i64 (p1 - (p0.qual.length : Int))) < 0))))), (10, (.d (.i .i64 (IntKind.wrap .i64 (p1 - (p0.qual.length : Int)))))), (1, (.d (.i .i64 (IntKind.wrap .i64 (p1 - (p0.qual.length : Int)))))), (9, (.d (.i .i64 (IntKind.wrap .i64 (p1 - (p0.qual.length : Int)))))), (8, (.d (.i .i64 (p0.qual.length : Int)))), (7, (.d (.s (bs p0.qual)))), (6, (.ptr 2 1)), (5, (.d (.i .i64 p1))), (4, (.d (.i .i64 0))), (2, (.ptr 2 0)), (0, (vGItem p0)), (1, (.d (.i .i64 p1)))], [(2, [(.d (.b p0.star)), (.d (.s (bs p0.qual))), (.d (.i .i64 p0.expr.kind)), (.d (.i .i64 p0.expr.op)), (.d (.b p0.expr.not_)), (.d (.i .i64 p0.expr.value.kind)), (.d (.i .i64 p0.expr.value.num)), (.d (.s (bs p0.expr.value.text))), (.d (.s (bs p0.expr.qual))), (.d (.s (bs p0.expr.name))), (.d (.sl 10 (p0.expr.kids.map cGExpr))), (.d (.sl 6 (p0.expr.sub.map cGQuery))), (.d (.s (bs p0.as_)))])]⟩) (by kernel_rfl) ?_
          refine nil_in ?_
          refine next_in ?_
          refine ret_in ?_
          have h := Option.some.inj h; subst h
          exact ret1_step (v := (.d (.i .i64 (IntKind.wrap .i64 (y1 - (p0.as_.length : Int)))))) (by kernel_rfl) (by kernel_rfl) (by kernel_rfl)
theorem OK_wSzSource (p0 : GSource) (p1 : Int) : FOk Try.prog 118 [(vGSource p0), (.d (.i .i64 p1))] (fun y => (.d (.i .i64 y))) (wSzSource p0 p1) := fun r h => (OKs_wSzSource).1 p0 p1 r h
theorem OK_wSzExprS (p0 : (List GExpr)) (p1 : Int) : FOk Try.prog 56 [(.d (.sl 10 (p0.map cGExpr))), (.d (.i .i64 p1))] (fun y => (.d (.i .i64 y))) (wSzExprS p0 p1) := fun r h => (OKs_wSzSource).2.1 p0 p1 r h
theorem OK_wSzExprS_L0 (p0 : (List GExpr)) (x1 : Int) (x5 : Int) (r : Int) (h : wSzExprS_L0 p0 x1 x5 = some r) : avc Try.prog acwSzExprS_L0 (qwSzExprS_1 r) (stwSzExprS_L0 p0 x1 x5) := (OKs_wSzSource).2.2.1 p0 x1 x5 r h
theorem OK_wSzExpr (p0 : GExpr) (p1 : Int) : FOk Try.prog 19 [(vGExpr p0), (.d (.i .i64 p1))] (fun y => (.d (.i .i64 y))) (wSzExpr p0 p1) := fun r h => (OKs_wSzSource).2.2.2.1 p0 p1 r h
theorem OK_wSzQueryS (p0 : (List GQuery)) (p1 : Int) : FOk Try.prog 71 [(.d (.sl 6 (p0.map cGQuery))), (.d (.i .i64 p1))] (fun y => (.d (.i .i64 y))) (wSzQueryS p0 p1) := fun r h => (OKs_wSzSource).2.2.2.2.1 p0 p1 r h
theorem OK_wSzQueryS_L0 (p0 : (List GQuery)) (x1 : Int) (x5 : Int) (r : Int) (h : wSzQueryS_L0 p0 x1 x5 = some r) : avc Try.prog acwSzQueryS_L0 (qwSzQueryS_1 r) (stwSzQueryS_L0 p0 x1 x5) := (OKs_wSzSource).2.2.2.2.2.1 p0 x1 x5 r h
theorem OK_wSzQuery (p0 : GQuery) (p1 : Int) : FOk Try.prog 14 [(vGQuery p0), (.d (.i .i64 p1))] (fun y => (.d (.i .i64 y))) (wSzQuery p0 p1) := fun r h => (OKs_wSzSource).2.2.2.2.2.2.1 p0 p1 r h
theorem OK_wSzSortKeyS (p0 : (List GSortKey)) (p1 : Int) : FOk Try.prog 57 [(.d (.sl 11 (p0.map cGSortKey))), (.d (.i .i64 p1))] (fun y => (.d (.i .i64 y))) (wSzSortKeyS p0 p1) := fun r h => (OKs_wSzSource).2.2.2.2.2.2.2.1 p0 p1 r h
theorem OK_wSzSortKeyS_L0 (p0 : (List GSortKey)) (x1 : Int) (x5 : Int) (r : Int) (h : wSzSortKeyS_L0 p0 x1 x5 = some r) : avc Try.prog acwSzSortKeyS_L0 (qwSzSortKeyS_1 r) (stwSzSortKeyS_L0 p0 x1 x5) := (OKs_wSzSource).2.2.2.2.2.2.2.2.1 p0 x1 x5 r h
theorem OK_wSzSortKey (p0 : GSortKey) (p1 : Int) : FOk Try.prog 119 [(vGSortKey p0), (.d (.i .i64 p1))] (fun y => (.d (.i .i64 y))) (wSzSortKey p0 p1) := fun r h => (OKs_wSzSource).2.2.2.2.2.2.2.2.2.1 p0 p1 r h
theorem OK_wSzSourceS (p0 : (List GSource)) (p1 : Int) : FOk Try.prog 55 [(.d (.sl 3 (p0.map cGSource))), (.d (.i .i64 p1))] (fun y => (.d (.i .i64 y))) (wSzSourceS p0 p1) := fun r h => (OKs_wSzSource).2.2.2.2.2.2.2.2.2.2.1 p0 p1 r h
theorem OK_wSzSourceS_L0 (p0 : (List GSource)) (x1 : Int) (x5 : Int) (r : Int) (h : wSzSourceS_L0 p0 x1 x5 = some r) : avc Try.prog acwSzSourceS_L0 (qwSzSourceS_1 r) (stwSzSourceS_L0 p0 x1 x5) := (OKs_wSzSource).2.2.2.2.2.2.2.2.2.2.2.1 p0 x1 x5 r h
theorem OK_wSzItemS (p0 : (List GItem)) (p1 : Int) : FOk Try.prog 54 [(.d (.sl 13 (p0.map cGItem))), (.d (.i .i64 p1))] (fun y => (.d (.i .i64 y))) (wSzItemS p0 p1) := fun r h => (OKs_wSzSource).2.2.2.2.2.2.2.2.2.2.2.2.1 p0 p1 r h
theorem OK_wSzItemS_L0 (p0 : (List GItem)) (x1 : Int) (x5 : Int) (r : Int) (h : wSzItemS_L0 p0 x1 x5 = some r) : avc Try.prog acwSzItemS_L0 (qwSzItemS_1 r) (stwSzItemS_L0 p0 x1 x5) := (OKs_wSzSource).2.2.2.2.2.2.2.2.2.2.2.2.2.1 p0 x1 x5 r h
theorem OK_wSzItem (p0 : GItem) (p1 : Int) : FOk Try.prog 117 [(vGItem p0), (.d (.i .i64 p1))] (fun y => (.d (.i .i64 y))) (wSzItem p0 p1) := fun r h => (OKs_wSzSource).2.2.2.2.2.2.2.2.2.2.2.2.2.2 p0 p1 r h
theorem OK_wToValue (p0 : GValue) : FOk Try.prog 73 [(vGValue p0)] (fun y => (vGValue y)) (wToValue p0) := by
  intro r h
  rw [wToValue] at h
  refine acalls_of_fn trwToValue (Nat.le_of_ble_eq_true rfl) (by simp) ?_
  show avc Try.prog acwToValue (qwToValue _) ⟨[(0, (vGValue p0))], []⟩
  delta acwToValue
  refine seq_in ?_
  refine ops_in ?_
  refine sts_ok 2 (s' := ⟨[(2, (.ptr 2 0)), (1, (.ptr 1 0)), (0, (vGValue p0))], [(2, [(.d (.i .i64 0)), (.d (.i .i64 0)), (.d (.s (bs [])))]), (1, [(.d (.i .i64 p0.kind)), (.d (.i .i64 p0.num)), (.d (.s (bs p0.text)))])]⟩) (by kernel_rfl) ?_
  refine nil_in ?_
  refine next_in ?_
  refine seq_in ?_
  refine ops_in ?_
  refine sts_ok 1 (s' := ⟨[(3, (.ptr 3 0)), (2, (.ptr 2 0)), (1, (.ptr 1 0)), (0, (vGValue p0))], [(3, [(.d (.i .i64 0)), (.d (.i .i64 0)), (.d (.s (bs [])))]), (2, [(.d (.i .i64 0)), (.d (.i .i64 0)), (.d (.s (bs [])))]), (1, [(.d (.i .i64 p0.kind)), (.d (.i .i64 p0.num)), (.d (.s (bs p0.text)))])]⟩) (by kernel_rfl) ?_
  refine nil_in ?_
  refine next_in ?_
  refine seq_in ?_
  refine ops_in ?_
  refine sts_ok 4 (s' := ⟨[(6, (.ptr 3 0)), (5, (.d (.i .i64 p0.kind))), (4, (.ptr 1 0)), (3, (.ptr 3 0)), (2, (.ptr 2 0)), (1, (.ptr 1 0)), (0, (vGValue p0))], [(3, [(.d (.i .i64 p0.kind)), (.d (.i .i64 0)), (.d (.s (bs [])))]), (2, [(.d (.i .i64 0)), (.d (.i .i64 0)), (.d (.s (bs [])))]), (1, [(.d (.i .i64 p0.kind)), (.d (.i .i64 p0.num)), (.d (.s (bs p0.text)))])]⟩) (by kernel_rfl) ?_
  refine nil_in ?_
  refine next_in ?_
  refine seq_in ?_
  refine ops_in ?_
  refine sts_ok 4 (s' := ⟨[(9, (.ptr 3 1)), (8, (.d (.i .i64 p0.num))), (7, (.ptr 1 1)), (6, (.ptr 3 0)), (5, (.d (.i .i64 p0.kind))), (4, (.ptr 1 0)), (3, (.ptr 3 0)), (2, (.ptr 2 0)), (1, (.ptr 1 0)), (0, (vGValue p0))], [(3, [(.d (.i .i64 p0.kind)), (.d (.i .i64 p0.num)), (.d (.s (bs [])))]), (2, [(.d (.i .i64 0)), (.d (.i .i64 0)), (.d (.s (bs [])))]), (1, [(.d (.i .i64 p0.kind)), (.d (.i .i64 p0.num)), (.d (.s (bs p0.text)))])]⟩) (by kernel_rfl) ?_
  refine nil_in ?_
  refine next_in ?_
  refine seq_in ?_
  refine ops_in ?_
  refine sts_ok 4 (s' := ⟨[(12, (.ptr 3 2)), (11, (.d (.s (bs p0.text)))), (10, (.ptr 1 2)), (9, (.ptr 3 1)), (8, (.d (.i .i64 p0.num))), (7, (.ptr 1 1)), (6, (.ptr 3 0)), (5, (.d (.i .i64 p0.kind))), (4, (.ptr 1 0)), (3, (.ptr 3 0)), (2, (.ptr 2 0)), (1, (.ptr 1 0)), (0, (vGValue p0))], [(3, [(.d (.i .i64 p0.kind)), (.d (.i .i64 p0.num)), (.d (.s (bs p0.text)))]), (2, [(.d (.i .i64 0)), (.d (.i .i64 0)), (.d (.s (bs [])))]), (1, [(.d (.i .i64 p0.kind)), (.d (.i .i64 p0.num)), (.d (.s (bs p0.text)))])]⟩) (by kernel_rfl) ?_
  refine nil_in ?_
  refine next_in ?_
  refine seq_in ?_
  refine ops_in ?_
  refine sts_ok 2 (s' := ⟨[(13, (vGValue p0)), (12, (.ptr 3 2)), (11, (.d (.s (bs p0.text)))), (10, (.ptr 1 2)), (9, (.ptr 3 1)), (8, (.d (.i .i64 p0.num))), (7, (.ptr 1 1)), (6, (.ptr 3 0)), (5, (.d (.i .i64 p0.kind))), (4, (.ptr 1 0)), (3, (.ptr 3 0)), (2, (.ptr 2 0)), (1, (.ptr 1 0)), (0, (vGValue p0))], [(3, [(.d (.i .i64 p0.kind)), (.d (.i .i64 p0.num)), (.d (.s (bs p0.text)))]), (2, [(.d (.i .i64 p0.kind)), (.d (.i .i64 p0.num)), (.d (.s (bs p0.text)))]), (1, [(.d (.i .i64 p0.kind)), (.d (.i .i64 p0.num)), (.d (.s (bs p0.text)))])]⟩) (by kernel_rfl) ?_
  refine nil_in ?_
  refine next_in ?_
  refine ret_in ?_
  have h := Option.some.inj h; subst h
  exact ret1_step (v := (vGValue p0)) (by kernel_rfl) (by kernel_rfl) (by kernel_rfl)
theorem OKs_wToSource : (∀ (p0 : GSource) (r : GSource), wToSource p0 = some r → ACalls Try.prog 121 [(vGSource p0)] [] fun x _ => x = (fun y => (vGSource y)) r) ∧ (∀ (p0 : (List GExpr)) (r : (List GExpr)), wToExprS p0 = some r → ACalls Try.prog 63 [(.d (.sl 10 (p0.map cGExpr)))] [] fun x _ => x = (fun y => (.d (.sl 10 (y.map cGExpr)))) r) ∧ (∀ (p0 : (List GExpr)) (x4 : Int) (b7_0 : (List GExpr)) (r : (List GExpr)), wToExprS_L0 p0 x4 b7_0 = some r → avc Try.prog acwToExprS_L0 (qwToExprS_1 r) (stwToExprS_L0 p0 x4 b7_0)) ∧ (∀ (p0 : GExpr) (r : GExpr), wToExpr p0 = some r → ACalls Try.prog 21 [(vGExpr p0)] [] fun x _ => x = (fun y => (vGExpr y)) r) ∧ (∀ (p0 : (List GQuery)) (r : (List GQuery)), wToQueryS p0 = some r → ACalls Try.prog 74 [(.d (.sl 6 (p0.map cGQuery)))] [] fun x _ => x = (fun y => (.d (.sl 6 (y.map cGQuery)))) r) ∧ (∀ (p0 : (List GQuery)) (x4 : Int) (b7_0 : (List GQuery)) (r : (List GQuery)), wToQueryS_L0 p0 x4 b7_0 = some r → avc Try.prog acwToQueryS_L0 (qwToQueryS_1 r) (stwToQueryS_L0 p0 x4 b7_0)) ∧ (∀ (p0 : GQuery) (r : GQuery), wToQuery p0 = some r → ACalls Try.prog 16 [(vGQuery p0)] [] fun x _ => x = (fun y => (vGQuery y)) r) ∧ (∀ (p0 : (List GSortKey)) (r : (List GSortKey)), wToSortKeyS p0 = some r → ACalls Try.prog 64 [(.d (.sl 11 (p0.map cGSortKey)))] [] fun x _ => x = (fun y => (.d (.sl 11 (y.map cGSortKey)))) r) ∧ (∀ (p0 : (List GSortKey)) (x4 : Int) (b7_0 : (List GSortKey)) (r : (List GSortKey)), wToSortKeyS_L0 p0 x4 b7_0 = some r → avc Try.prog acwToSortKeyS_L0 (qwToSortKeyS_1 r) (stwToSortKeyS_L0 p0 x4 b7_0)) ∧ (∀ (p0 : GSortKey) (r : GSortKey), wToSortKey p0 = some r → ACalls Try.prog 122 [(vGSortKey p0)] [] fun x _ => x = (fun y => (vGSortKey y)) r) ∧ (∀ (p0 : (List GSource)) (r : (List GSource)), wToSourceS p0 = some r → ACalls Try.prog 62 [(.d (.sl 3 (p0.map cGSource)))] [] fun x _ => x = (fun y => (.d (.sl 3 (y.map cGSource)))) r) ∧ (∀ (p0 : (List GSource)) (x4 : Int) (b7_0 : (List GSource)) (r : (List GSource)), wToSourceS_L0 p0 x4 b7_0 = some r → avc Try.prog acwToSourceS_L0 (qwToSourceS_1 r) (stwToSourceS_L0 p0 x4 b7_0)) ∧ (∀ (p0 : (List GItem)) (r : (List GItem)), wToItemS p0 = some r → ACalls Try.prog 61 [(.d (.sl 13 (p0.map cGItem)))] [] fun x _ => x = (fun y => (.d (.sl 13 (y.map cGItem)))) r) ∧ (∀ (p0 : (List GItem)) (x4 : Int) (b7_0 : (List GItem)) (r : (List GItem)), wToItemS_L0 p0 x4 b7_0 = some r → avc Try.prog acwToItemS_L0 (qwToItemS_1 r) (stwToItemS_L0 p0 x4 b7_0)) ∧ (∀ (p0 : GItem) (r : GItem), wToItem p0 = some r → ACalls Try.prog 120 [(vGItem p0)] [] fun x _ => x = (fun y => (vGItem y)) r) := by
  refine wToSource.mutual_partial_correctness (fun p0 r => ACalls Try.prog 121 [(vGSource p0)] [] fun x _ => x = (fun y => (vGSource y)) r) (fun p0 r => ACalls Try.prog 63 [(.d (.sl 10 (p0.map cGExpr)))] [] fun x _ => x = (fun y => (.d (.sl 10 (y.map cGExpr)))) r) (fun p0 x4 b7_0 r => avc Try.prog acwToExprS_L0 (qwToExprS_1 r) (stwToExprS_L0 p0 x4 b7_0)) (fun p0 r => ACalls Try.prog 21 [(vGExpr p0)] [] fun x _ => x = (fun y => (vGExpr y)) r) (fun p0 r => ACalls Try.prog 74 [(.d (.sl 6 (p0.map cGQuery)))] [] fun x _ => x = (fun y => (.d (.sl 6 (y.map cGQuery)))) r) (fun p0 x4 b7_0 r => avc Try.prog acwToQueryS_L0 (qwToQueryS_1 r) (stwToQueryS_L0 p0 x4 b7_0)) (fun p0 r => ACalls Try.prog 16 [(vGQuery p0)] [] fun x _ => x = (fun y => (vGQuery y)) r) (fun p0 r => ACalls Try.prog 64 [(.d (.sl 11 (p0.map cGSortKey)))] [] fun x _ => x = (fun y => (.d (.sl 11 (y.map cGSortKey)))) r) (fun p0 x4 b7_0 r => avc Try.prog acwToSortKeyS_L0 (qwToSortKeyS_1 r) (stwToSortKeyS_L0 p0 x4 b7_0)) (fun p0 r => ACalls Try.prog 122 [(vGSortKey p0)] [] fun x _ => x = (fun y => (vGSortKey y)) r) (fun p0 r => ACalls Try.prog 62 [(.d (.sl 3 (p0.map cGSource)))] [] fun x _ => x = (fun y => (.d (.sl 3 (y.map cGSource)))) r) (fun p0 x4 b7_0 r => avc Try.prog acwToSourceS_L0 (qwToSourceS_1 r) (stwToSourceS_L0 p0 x4 b7_0)) (fun p0 r => ACalls Try.prog 61 [(.d (.sl 13 (p0.map cGItem)))] [] fun x _ => x = (fun y => (.d (.sl 13 (y.map cGItem)))) r) (fun p0 x4 b7_0 r => avc Try.prog acwToItemS_L0 (qwToItemS_1 r) (stwToItemS_L0 p0 x4 b7_0)) (fun p0 r => ACalls Try.prog 120 [(vGItem p0)] [] fun x _ => x = (fun y => (vGItem y)) r) ?_ ?_ ?_ ?_ ?_ ?_ ?_ ?_ ?_ ?_ ?_ ?_ ?_ ?_ ?_
  · intro F_wToExprS OK_wToExprS p0 r h
    refine acalls_of_fn trwToSource (Nat.le_of_ble_eq_true rfl) (by simp) ?_
    show avc Try.prog acwToSource (qwToSource _) ⟨[(0, (vGSource p0))], []⟩
    delta acwToSource
    refine seq_in ?_
    refine ops_in ?_
    refine sts_ok 2 (s' := ⟨[(2, (.ptr 2 0)), (1, (.ptr 1 0)), (0, (vGSource p0))], [(2, [(.d (.s (bs []))), (.d (.s (bs []))), (.nil 10)]), (1, [(.d (.s (bs p0.table))), (.d (.s (bs p0.as_))), (.d (.sl 10 (p0.on_.map cGExpr)))])]⟩) (by kernel_rfl) ?_
    refine nil_in ?_
    refine next_in ?_
    refine seq_in ?_
    refine ops_in ?_
    refine sts_ok 1 (s' := ⟨[(3, (.ptr 3 0)), (2, (.ptr 2 0)), (1, (.ptr 1 0)), (0, (vGSource p0))], [(3, [(.d (.s (bs []))), (.d (.s (bs []))), (.nil 10)]), (2, [(.d (.s (bs []))), (.d (.s (bs []))), (.nil 10)]), (1, [(.d (.s (bs p0.table))), (.d (.s (bs p0.as_))), (.d (.sl 10 (p0.on_.map cGExpr)))])]⟩) (by kernel_rfl) ?_
    refine nil_in ?_
    refine next_in ?_
    refine seq_in ?_
    refine ops_in ?_
    refine sts_ok 4 (s' := ⟨[(6, (.ptr 3 0)), (5, (.d (.s (bs p0.table)))), (4, (.ptr 1 0)), (3, (.ptr 3 0)), (2, (.ptr 2 0)), (1, (.ptr 1 0)), (0, (vGSource p0))], [(3, [(.d (.s (bs p0.table))), (.d (.s (bs []))), (.nil 10)]), (2, [(.d (.s (bs []))), (.d (.s (bs []))), (.nil 10)]), (1, [(.d (.s (bs p0.table))), (.d (.s (bs p0.as_))), (.d (.sl 10 (p0.on_.map cGExpr)))])]⟩) (by kernel_rfl) ?_
    refine nil_in ?_
    refine next_in ?_
    refine seq_in ?_
    refine ops_in ?_
    refine sts_ok 4 (s' := ⟨[(9, (.ptr 3 1)), (8, (.d (.s (bs p0.as_)))), (7, (.ptr 1 1)), (6, (.ptr 3 0)), (5, (.d (.s (bs p0.table)))), (4, (.ptr 1 0)), (3, (.ptr 3 0)), (2, (.ptr 2 0)), (1, (.ptr 1 0)), (0, (vGSource p0))], [(3, [(.d (.s (bs p0.table))), (.d (.s (bs p0.as_))), (.nil 10)]), (2, [(.d (.s (bs []))), (.d (.s (bs []))), (.nil 10)]), (1, [(.d (.s (bs p0.table))), (.d (.s (bs p0.as_))), (.d (.sl 10 (p0.on_.map cGExpr)))])]⟩) (by kernel_rfl) ?_
    refine nil_in ?_
    refine next_in ?_
    refine seq_in ?_
    refine ops_in ?_
    refine sts_ok 2 (s' := ⟨[(11, (.d (.sl 10 (p0.on_.map cGExpr)))), (10, (.ptr 1 2)), (9, (.ptr 3 1)), (8, (.d (.s (bs p0.as_)))), (7, (.ptr 1 1)), (6, (.ptr 3 0)), (5, (.d (.s (bs p0.table)))), (4, (.ptr 1 0)), (3, (.ptr 3 0)), (2, (.ptr 2 0)), (1, (.ptr 1 0)), (0, (vGSource p0))], [(3, [(.d (.s (bs p0.table))), (.d (.s (bs p0.as_))), (.nil 10)]), (2, [(.d (.s (bs []))), (.d (.s (bs []))), (.nil 10)]), (1, [(.d (.s (bs p0.table))), (.d (.s (bs p0.as_))), (.d (.sl 10 (p0.on_.map cGExpr)))])]⟩) (by kernel_rfl) ?_
    refine call_step (m := F_wToExprS p0.on_) (args := [(.d (.sl 10 (p0.on_.map cGExpr)))]) (v' := (fun y => (.d (.sl 10 (y.map cGExpr))))) h (OK_wToExprS p0.on_) (by kernel_rfl) (by kernel_rfl) (fun _ => rfl) ?_
    clear h; intro y1 h
    refine sts_ok 2 (s' := ⟨[(13, (.ptr 3 2)), (12, (.d (.sl 10 (y1.map cGExpr)))), (11, (.d (.sl 10 (p0.on_.map cGExpr)))), (10, (.ptr 1 2)), (9, (.ptr 3 1)), (8, (.d (.s (bs p0.as_)))), (7, (.ptr 1 1)), (6, (.ptr 3 0)), (5, (.d (.s (bs p0.table)))), (4, (.ptr 1 0)), (3, (.ptr 3 0)), (2, (.ptr 2 0)), (1, (.ptr 1 0)), (0, (vGSource p0))], [(3, [(.d (.s (bs p0.table))), (.d (.s (bs p0.as_))), (.d (.sl 10 (y1.map cGExpr)))]), (2, [(.d (.s (bs []))), (.d (.s (bs []))), (.nil 10)]), (1, [(.d (.s (bs p0.table))), (.d (.s (bs p0.as_))), (.d (.sl 10 (p0.on_.map cGExpr)))])]⟩) (by kernel_rfl) ?_
    refine nil_in ?_
    refine next_in ?_
    refine seq_in ?_
    refine ops_in ?_
    refine sts_ok 2 (s' := ⟨[(14, (vGSource (GSource.mk p0.table p0.as_ y1))), (13, (.ptr 3 2)), (12, (.d (.sl 10 (y1.map cGExpr)))), (11, (.d (.sl 10 (p0.on_.map cGExpr)))), (10, (.ptr 1 2)), (9, (.ptr 3 1)), (8, (.d (.s (bs p0.as_)))), (7, (.ptr 1 1)), (6, (.ptr 3 0)), (5, (.d (.s (bs p0.table)))), (4, (.ptr 1 0)), (3, (.ptr 3 0)), (2, (.ptr 2 0)), (1, (.ptr 1 0)), (0, (vGSource p0))], [(3, [(.d (.s (bs p0.table))), (.d (.s (bs p0.as_))), (.d (.sl 10 (y1.map cGExpr)))]), (2, [(.d (.s (bs p0.table))), (.d (.s (bs p0.as_))), (.d (.sl 10 (y1.map cGExpr)))]), (1, [(.d (.s (bs p0.table))), (.d (.s (bs p0.as_))), (.d (.sl 10 (p0.on_.map cGExpr)))])]⟩) (by kernel_rfl) ?_
    refine nil_in ?_
    refine next_in ?_
    refine ret_in ?_
    have h := Option.some.inj h; subst h
    exact ret1_step (v := (vGSource (GSource.mk p0.table p0.as_ y1))) (by kernel_rfl) (by kernel_rfl) (by kernel_rfl)
  · intro F_wToExprS_L0 OK_wToExprS_L0 p0 r h
    refine acalls_of_fn trwToExprS (Nat.le_of_ble_eq_true rfl) (by simp) ?_
    show avc Try.prog acwToExprS (qwToExprS _) ⟨[(0, (.d (.sl 10 (p0.map cGExpr))))], []⟩
    delta acwToExprS
    refine seq_in ?_
    refine ops_in ?_
    refine sts_ok 1 (s' := ⟨[(2, (.nil 10)), (0, (.d (.sl 10 (p0.map cGExpr))))], []⟩) (by kernel_rfl) ?_
    refine nil_in ?_
    refine next_in ?_
    refine seq_in ?_
    refine ops_in ?_
    refine sts_ok 1 (s' := ⟨[(5, (.d (.sl 10 (p0.map cGExpr)))), (2, (.nil 10)), (0, (.d (.sl 10 (p0.map cGExpr))))], []⟩) (by kernel_rfl) ?_
    refine p_step (v' := (.d (.i .i64 (p0.length : Int)))) rfl rfl (vop_len (sz := 10) (l := p0) (f := cGExpr) (by kernel_rfl) (by kernel_rfl)) ?_
    refine mks_step (k := .i64) (k' := .i64) (z := ((GExpr.mk 0 0 false (GValue.mk 0 0 []) [] [] ([] : List GExpr) ([] : List GQuery)) : GExpr)) (f := cGExpr) (S' := fun y => ⟨[(7, (.msl 7 10 0 y.length y.length)), (6, (.d (.i .i64 (p0.length : Int)))), (5, (.d (.sl 10 (p0.map cGExpr)))), (2, (.nil 10)), (0, (.d (.sl 10 (p0.map cGExpr))))], [(7, rowsV (y.map cGExpr))]⟩) h (by kernel_rfl) (by kernel_rfl) (by kernel_rfl) (by kernel_rfl) (by kernel_rfl) (fun y => by kernel_rfl) ?_
    clear h; intro y1 h
    refine sts_ok 1 (s' := ⟨[(3, (.msl 7 10 0 y1.length y1.length)), (7, (.msl 7 10 0 y1.length y1.length)), (6, (.d (.i .i64 (p0.length : Int)))), (5, (.d (.sl 10 (p0.map cGExpr)))), (2, (.nil 10)), (0, (.d (.sl 10 (p0.map cGExpr))))], [(7, rowsV (y1.map cGExpr))]⟩) (by kernel_rfl) ?_
    refine nil_in ?_
    refine next_in ?_
    refine seq_in ?_
    refine seq_in ?_
    refine ops_in ?_
    refine sts_ok 1 (s' := ⟨[(4, (.d (.i .i64 0))), (3, (.msl 7 10 0 y1.length y1.length)), (7, (.msl 7 10 0 y1.length y1.length)), (6, (.d (.i .i64 (p0.length : Int)))), (5, (.d (.sl 10 (p0.map cGExpr)))), (2, (.nil 10)), (0, (.d (.sl 10 (p0.map cGExpr))))], [(7, rowsV (y1.map cGExpr))]⟩) (by kernel_rfl) ?_
    refine nil_in ?_
    refine next_in ?_
    refine block_in ?_
    exact loop_go (s' := stwToExprS_L0 p0 0 y1) (wk_ren [] (by kernel_rfl) (er_cons (vr_same (by kernel_rfl) (by kernel_rfl)) (er_cons (vr_same (by kernel_rfl) (by kernel_rfl)) (er_cons (vr_same (by kernel_rfl) (by kernel_rfl)) (er_nil)))) (br_rows (by kernel_rfl) (br_nil))) (OK_wToExprS_L0 p0 0 y1 _ h)
  · intro F_wToExprS_L0 F_wToExpr OK_wToExprS_L0 OK_wToExpr p0 x4 b7_0 r h
    delta acwToExprS_L0
    refine loop_unroll ?_
    refine seq_in ?_
    refine seq_in ?_
    refine ops_in ?_
    refine sts_ok 2 (s' := ⟨(9, (.d (.sl 10 (p0.map cGExpr)))) :: (8, (.d (.i .i64 x4))) :: (stwToExprS_L0 p0 x4 b7_0).env, (stwToExprS_L0 p0 x4 b7_0).bx⟩) (by kernel_rfl) ?_
    refine p_step (v' := (.d (.i .i64 (p0.length : Int)))) rfl rfl (vop_len (sz := 10) (l := p0) (f := cGExpr) (by kernel_rfl) (by kernel_rfl)) ?_
    refine sts_ok 1 (s' := ⟨(11, (.d (.b (decide (x4 < (p0.length : Int)))))) :: (10, (.d (.i .i64 (p0.length : Int)))) :: (9, (.d (.sl 10 (p0.map cGExpr)))) :: (8, (.d (.i .i64 x4))) :: (stwToExprS_L0 p0 x4 b7_0).env, (stwToExprS_L0 p0 x4 b7_0).bx⟩) (by kernel_rfl) ?_
    refine nil_in ?_
    refine next_in ?_
    refine cond_step h (by kernel_rfl) ?_ ?_
    · clear h; intro h
      refine skip_in ?_
      refine next_in ?_
      refine seq_in ?_
      refine block_in ?_
      refine ops_in ?_
      refine sts_ok 4 (s' := ⟨(17, (.d (.i .i64 x4))) :: (16, (.d (.sl 10 (p0.map cGExpr)))) :: (15, (.d (.i .i64 x4))) :: (14, (.msl 7 10 0 b7_0.length b7_0.length)) :: (11, (.d (.b (decide (x4 < (p0.length : Int)))))) :: (10, (.d (.i .i64 (p0.length : Int)))) :: (9, (.d (.sl 10 (p0.map cGExpr)))) :: (8, (.d (.i .i64 x4))) :: (stwToExprS_L0 p0 x4 b7_0).env, (stwToExprS_L0 p0 x4 b7_0).bx⟩) (by kernel_rfl) ?_
      refine v_step (m := idx p0 x4) (v' := fun y => (.rp [(.i .i64 y.kind), (.i .i64 y.op), (.b y.not_), (.i .i64 y.value.kind), (.i .i64 y.value.num), (.s (bs y.value.text)), (.s (bs y.qual)), (.s (bs y.name)), (.sl 10 (y.kids.map cGExpr)), (.sl 6 (y.sub.map cGQuery))])) h rfl rfl (fun y hy => vop_ia (l := p0) (f := cGExpr) (g := oGExpr) (k := .i64) hy cGExpr_eq (by kernel_rfl) (by kernel_rfl) (by kernel_rfl)) ?_
      clear h; intro y2 h
      refine sts_ok 1 (s' := ⟨(19, (vGExpr y2)) :: (18, (.rp [(.i .i64 y2.kind), (.i .i64 y2.op), (.b y2.not_), (.i .i64 y2.value.kind), (.i .i64 y2.value.num), (.s (bs y2.value.text)), (.s (bs y2.qual)), (.s (bs y2.name)), (.sl 10 (y2.kids.map cGExpr)), (.sl 6 (y2.sub.map cGQuery))])) :: (17, (.d (.i .i64 x4))) :: (16, (.d (.sl 10 (p0.map cGExpr)))) :: (15, (.d (.i .i64 x4))) :: (14, (.msl 7 10 0 b7_0.length b7_0.length)) :: (11, (.d (.b (decide (x4 < (p0.length : Int)))))) :: (10, (.d (.i .i64 (p0.length : Int)))) :: (9, (.d (.sl 10 (p0.map cGExpr)))) :: (8, (.d (.i .i64 x4))) :: (stwToExprS_L0 p0 x4 b7_0).env, (stwToExprS_L0 p0 x4 b7_0).bx⟩) (by kernel_rfl) ?_
      refine call_step (m := F_wToExpr y2) (args := [(vGExpr y2)]) (v' := (fun y => (vGExpr y))) h (OK_wToExpr y2) (by kernel_rfl) (by kernel_rfl) (fun _ => rfl) ?_
      clear h; intro y3 h
      refine v_step (m := idx b7_0 x4) (v' := fun y => (.ptr 7 ((0 + (x4).toNat) * 10))) h rfl rfl (fun y hy => vop_iaE (l := b7_0) (k := .i64) hy (by kernel_rfl) (by kernel_rfl) (by kernel_rfl)) ?_
      clear h; intro y4 h
      refine sti_step (b := 7) (i := x4) (l := b7_0) (v := y3) (f := cGExpr) (u := (vGExpr y3)) (T := fun y m => ⟨[(21, (.ptr 7 ((0 + (x4).toNat) * 10))), (20, (vGExpr y3)), (19, (vGExpr y2)), (18, (.rp [(.i .i64 y2.kind), (.i .i64 y2.op), (.b y2.not_), (.i .i64 y2.value.kind), (.i .i64 y2.value.num), (.s (bs y2.value.text)), (.s (bs y2.qual)), (.s (bs y2.name)), (.sl 10 (y2.kids.map cGExpr)), (.sl 6 (y2.sub.map cGQuery))])), (17, (.d (.i .i64 x4))), (16, (.d (.sl 10 (p0.map cGExpr)))), (15, (.d (.i .i64 x4))), (14, (.msl 7 10 0 m m)), (11, (.d (.b (decide (x4 < (p0.length : Int)))))), (10, (.d (.i .i64 (p0.length : Int)))), (9, (.d (.sl 10 (p0.map cGExpr)))), (8, (.d (.i .i64 x4))), (0, (.d (.sl 10 (p0.map cGExpr)))), (3, (.msl 7 10 0 m m)), (4, (.d (.i .i64 x4)))], [(7, rowsV (y.map cGExpr))]⟩) h (by kernel_rfl) (by kernel_rfl) (by kernel_rfl) (congrArg (List.map V.d) (cGExpr_eq y3).symm) (fun y => (congrArg List.length (cGExpr_eq y)).trans rfl) (by kernel_rfl) (fun y => by kernel_rfl) ?_
      clear h; intro y5 h
      refine nil_in ?_
      refine blockK_norm ?_
      refine next_in ?_
      refine ops_in ?_
      refine sts_ok 3 (s' := ⟨[(4, (.d (.i .i64 (IntKind.wrap .i64 (x4 + 1))))), (13, (.d (.i .i64 (IntKind.wrap .i64 (x4 + 1))))), (12, (.d (.i .i64 x4))), (21, (.ptr 7 ((0 + (x4).toNat) * 10))), (20, (vGExpr y3)), (19, (vGExpr y2)), (18, (.rp [(.i .i64 y2.kind), (.i .i64 y2.op), (.b y2.not_), (.i .i64 y2.value.kind), (.i .i64 y2.value.num), (.s (bs y2.value.text)), (.s (bs y2.qual)), (.s (bs y2.name)), (.sl 10 (y2.kids.map cGExpr)), (.sl 6 (y2.sub.map cGQuery))])), (17, (.d (.i .i64 x4))), (16, (.d (.sl 10 (p0.map cGExpr)))), (15, (.d (.i .i64 x4))), (14, (.msl 7 10 0 y5.length y5.length)), (11, (.d (.b (decide (x4 < (p0.length : Int)))))), (10, (.d (.i .i64 (p0.length : Int)))), (9, (.d (.sl 10 (p0.map cGExpr)))), (8, (.d (.i .i64 x4))), (0, (.d (.sl 10 (p0.map cGExpr)))), (3, (.msl 7 10 0 y5.length y5.length)), (4, (.d (.i .i64 x4)))], [(7, rowsV (y5.map cGExpr))]⟩) (by kernel_rfl) ?_
      refine nil_in ?_
      exact loop_back (s' := stwToExprS_L0 p0 (IntKind.wrap .i64 (x4 + 1)) y5) (wk_ren [] (by kernel_rfl) (er_cons (vr_same (by kernel_rfl) (by kernel_rfl)) (er_cons (vr_same (by kernel_rfl) (by kernel_rfl)) (er_cons (vr_same (by kernel_rfl) (by kernel_rfl)) (er_nil)))) (br_rows (by kernel_rfl) (br_nil))) (OK_wToExprS_L0 p0 (IntKind.wrap .i64 (x4 + 1)) y5 _ h)
    · clear h; intro h
      refine exit_in ?_
      refine thenK_exit ?_
      refine thenK_exit ?_
      refine blockK_here ?_
      refine next_in ?_
      refine seq_in ?_
      refine ops_in ?_
      refine sts_ok 2 (s' := ⟨(2, (.msl 7 10 0 b7_0.length b7_0.length)) :: (22, (.msl 7 10 0 b7_0.length b7_0.length)) :: (11, (.d (.b (decide (x4 < (p0.length : Int)))))) :: (10, (.d (.i .i64 (p0.length : Int)))) :: (9, (.d (.sl 10 (p0.map cGExpr)))) :: (8, (.d (.i .i64 x4))) :: (stwToExprS_L0 p0 x4 b7_0).env, (stwToExprS_L0 p0 x4 b7_0).bx⟩) (by kernel_rfl) ?_
      refine nil_in ?_
      refine next_in ?_
      refine ret_frz (n := 7) (sz := 10) (l := b7_0) (f := cGExpr) (s' := ⟨[(2, (.d (.sl 10 (b7_0.map cGExpr))))], []⟩) (by decide) (fun y => (congrArg List.length (cGExpr_eq y)).trans rfl) (by kernel_rfl) (⟨.inr ⟨b7_0.length, b7_0.length, by kernel_rfl, lms b7_0 _, by kernel_rfl⟩, trivial⟩) (trivial) ?_
      refine ret_in ?_
      have h := Option.some.inj h; subst h
      exact ret1_step (v := (.d (.sl 10 (b7_0.map cGExpr)))) (by kernel_rfl) (by kernel_rfl) (by kernel_rfl)
  · intro F_wToExprS F_wToQueryS OK_wToExprS OK_wToQueryS p0 r h
    refine acalls_of_fn trwToExpr (Nat.le_of_ble_eq_true rfl) (by simp) ?_
    show avc Try.prog acwToExpr (qwToExpr _) ⟨[(0, (vGExpr p0))], []⟩
    delta acwToExpr
    refine seq_in ?_
    refine ops_in ?_
    refine sts_ok 2 (s' := ⟨[(2, (.ptr 2 0)), (1, (.ptr 1 0)), (0, (vGExpr p0))], [(2, [(.d (.i .i64 0)), (.d (.i .i64 0)), (.d (.b false)), (.d (.i .i64 0)), (.d (.i .i64 0)), (.d (.s (bs []))), (.d (.s (bs []))), (.d (.s (bs []))), (.nil 10), (.nil 6)]), (1, [(.d (.i .i64 p0.kind)), (.d (.i .i64 p0.op)), (.d (.b p0.not_)), (.d (.i .i64 p0.value.kind)), (.d (.i .i64 p0.value.num)), (.d (.s (bs p0.value.text))), (.d (.s (bs p0.qual))), (.d (.s (bs p0.name))), (.d (.sl 10 (p0.kids.map cGExpr))), (.d (.sl 6 (p0.sub.map cGQuery)))])]⟩) (by kernel_rfl) ?_
    refine nil_in ?_
    refine next_in ?_
    refine seq_in ?_
    refine ops_in ?_
    refine sts_ok 1 (s' := ⟨[(3, (.ptr 3 0)), (2, (.ptr 2 0)), (1, (.ptr 1 0)), (0, (vGExpr p0))], [(3, [(.d (.i .i64 0)), (.d (.i .i64 0)), (.d (.b false)), (.d (.i .i64 0)), (.d (.i .i64 0)), (.d (.s (bs []))), (.d (.s (bs []))), (.d (.s (bs []))), (.nil 10), (.nil 6)]), (2, [(.d (.i .i64 0)), (.d (.i .i64 0)), (.d (.b false)), (.d (.i .i64 0)), (.d (.i .i64 0)), (.d (.s (bs []))), (.d (.s (bs []))), (.d (.s (bs []))), (.nil 10), (.nil 6)]), (1, [(.d (.i .i64 p0.kind)), (.d (.i .i64 p0.op)), (.d (.b p0.not_)), (.d (.i .i64 p0.value.kind)), (.d (.i .i64 p0.value.num)), (.d (.s (bs p0.value.text))), (.d (.s (bs p0.qual))), (.d (.s (bs p0.name))), (.d (.sl 10 (p0.kids.map cGExpr))), (.d (.sl 6 (p0.sub.map cGQuery)))])]⟩) (by kernel_rfl) ?_
    refine nil_in ?_
    refine next_in ?_
    refine seq_in ?_
    refine ops_in ?_
    refine sts_ok 4 (s' := ⟨[(6, (.ptr 3 0)), (5, (.d (.i .i64 p0.kind))), (4, (.ptr 1 0)), (3, (.ptr 3 0)), (2, (.ptr 2 0)), (1, (.ptr 1 0)), (0, (vGExpr p0))], [(3, [(.d (.i .i64 p0.kind)), (.d (.i .i64 0)), (.d (.b false)), (.d (.i .i64 0)), (.d (.i .i64 0)), (.d (.s (bs []))), (.d (.s (bs []))), (.d (.s (bs []))), (.nil 10), (.nil 6)]), (2, [(.d (.i .i64 0)), (.d (.i .i64 0)), (.d (.b false)), (.d (.i .i64 0)), (.d (.i .i64 0)), (.d (.s (bs []))), (.d (.s (bs []))), (.d (.s (bs []))), (.nil 10), (.nil 6)]), (1, [(.d (.i .i64 p0.kind)), (.d (.i .i64 p0.op)), (.d (.b p0.not_)), (.d (.i .i64 p0.value.kind)), (.d (.i .i64 p0.value.num)), (.d (.s (bs p0.value.text))), (.d (.s (bs p0.qual))), (.d (.s (bs p0.name))), (.d (.sl 10 (p0.kids.map cGExpr))), (.d (.sl 6 (p0.sub.map cGQuery)))])]⟩) (by kernel_rfl) ?_
    refine nil_in ?_
    refine next_in ?_
    refine seq_in ?_
    refine ops_in ?_
    refine sts_ok 4 (s' := ⟨[(9, (.ptr 3 1)), (8, (.d (.i .i64 p0.op))), (7, (.ptr 1 1)), (6, (.ptr 3 0)), (5, (.d (.i .i64 p0.kind))), (4, (.ptr 1 0)), (3, (.ptr 3 0)), (2, (.ptr 2 0)), (1, (.ptr 1 0)), (0, (vGExpr p0))], [(3, [(.d (.i .i64 p0.kind)), (.d (.i .i64 p0.op)), (.d (.b false)), (.d (.i .i64 0)), (.d (.i .i64 0)), (.d (.s (bs []))), (.d (.s (bs []))), (.d (.s (bs []))), (.nil 10), (.nil 6)]), (2, [(.d (.i .i64 0)), (.d (.i .i64 0)), (.d (.b false)), (.d (.i .i64 0)), (.d (.i .i64 0)), (.d (.s (bs []))), (.d (.s (bs []))), (.d (.s (bs []))), (.nil 10), (.nil 6)]), (1, [(.d (.i .i64 p0.kind)), (.d (.i .i64 p0.op)), (.d (.b p0.not_)), (.d (.i .i64 p0.value.kind)), (.d (.i .i64 p0.value.num)), (.d (.s (bs p0.value.text))), (.d (.s (bs p0.qual))), (.d (.s (bs p0.name))), (.d (.sl 10 (p0.kids.map cGExpr))), (.d (.sl 6 (p0.sub.map cGQuery)))])]⟩) (by kernel_rfl) ?_
    refine nil_in ?_
    refine next_in ?_
    refine seq_in ?_
    refine ops_in ?_
    refine sts_ok 4 (s' := ⟨[(12, (.ptr 3 2)), (11, (.d (.b p0.not_))), (10, (.ptr 1 2)), (9, (.ptr 3 1)), (8, (.d (.i .i64 p0.op))), (7, (.ptr 1 1)), (6, (.ptr 3 0)), (5, (.d (.i .i64 p0.kind))), (4, (.ptr 1 0)), (3, (.ptr 3 0)), (2, (.ptr 2 0)), (1, (.ptr 1 0)), (0, (vGExpr p0))], [(3, [(.d (.i .i64 p0.kind)), (.d (.i .i64 p0.op)), (.d (.b p0.not_)), (.d (.i .i64 0)), (.d (.i .i64 0)), (.d (.s (bs []))), (.d (.s (bs []))), (.d (.s (bs []))), (.nil 10), (.nil 6)]), (2, [(.d (.i .i64 0)), (.d (.i .i64 0)), (.d (.b false)), (.d (.i .i64 0)), (.d (.i .i64 0)), (.d (.s (bs []))), (.d (.s (bs []))), (.d (.s (bs []))), (.nil 10), (.nil 6)]), (1, [(.d (.i .i64 p0.kind)), (.d (.i .i64 p0.op)), (.d (.b p0.not_)), (.d (.i .i64 p0.value.kind)), (.d (.i .i64 p0.value.num)), (.d (.s (bs p0.value.text))), (.d (.s (bs p0.qual))), (.d (.s (bs p0.name))), (.d (.sl 10 (p0.kids.map cGExpr))), (.d (.sl 6 (p0.sub.map cGQuery)))])]⟩) (by kernel_rfl) ?_
    refine nil_in ?_
    refine next_in ?_
    refine seq_in ?_
    refine ops_in ?_
    refine sts_ok 2 (s' := ⟨[(14, (vGValue p0.value)), (13, (.ptr 1 3)), (12, (.ptr 3 2)), (11, (.d (.b p0.not_))), (10, (.ptr 1 2)), (9, (.ptr 3 1)), (8, (.d (.i .i64 p0.op))), (7, (.ptr 1 1)), (6, (.ptr 3 0)), (5, (.d (.i .i64 p0.kind))), (4, (.ptr 1 0)), (3, (.ptr 3 0)), (2, (.ptr 2 0)), (1, (.ptr 1 0)), (0, (vGExpr p0))], [(3, [(.d (.i .i64 p0.kind)), (.d (.i .i64 p0.op)), (.d (.b p0.not_)), (.d (.i .i64 0)), (.d (.i .i64 0)), (.d (.s (bs []))), (.d (.s (bs []))), (.d (.s (bs []))), (.nil 10), (.nil 6)]), (2, [(.d (.i .i64 0)), (.d (.i .i64 0)), (.d (.b false)), (.d (.i .i64 0)), (.d (.i .i64 0)), (.d (.s (bs []))), (.d (.s (bs []))), (.d (.s (bs []))), (.nil 10), (.nil 6)]), (1, [(.d (.i .i64 p0.kind)), (.d (.i .i64 p0.op)), (.d (.b p0.not_)), (.d (.i .i64 p0.value.kind)), (.d (.i .i64 p0.value.num)), (.d (.s (bs p0.value.text))), (.d (.s (bs p0.qual))), (.d (.s (bs p0.name))), (.d (.sl 10 (p0.kids.map cGExpr))), (.d (.sl 6 (p0.sub.map cGQuery)))])]⟩) (by kernel_rfl) ?_
    refine call_step (m := wToValue p0.value) (args := [(vGValue p0.value)]) (v' := (fun y => (vGValue y))) h (OK_wToValue p0.value) (by kernel_rfl) (by kernel_rfl) (fun _ => rfl) ?_
    clear h; intro y1 h
    refine sts_ok 2 (s' := ⟨[(16, (.ptr 3 3)), (15, (vGValue y1)), (14, (vGValue p0.value)), (13, (.ptr 1 3)), (12, (.ptr 3 2)), (11, (.d (.b p0.not_))), (10, (.ptr 1 2)), (9, (.ptr 3 1)), (8, (.d (.i .i64 p0.op))), (7, (.ptr 1 1)), (6, (.ptr 3 0)), (5, (.d (.i .i64 p0.kind))), (4, (.ptr 1 0)), (3, (.ptr 3 0)), (2, (.ptr 2 0)), (1, (.ptr 1 0)), (0, (vGExpr p0))], [(3, [(.d (.i .i64 p0.kind)), (.d (.i .i64 p0.op)), (.d (.b p0.not_)), (.d (.i .i64 y1.kind)), (.d (.i .i64 y1.num)), (.d (.s (bs y1.text))), (.d (.s (bs []))), (.d (.s (bs []))), (.nil 10), (.nil 6)]), (2, [(.d (.i .i64 0)), (.d (.i .i64 0)), (.d (.b false)), (.d (.i .i64 0)), (.d (.i .i64 0)), (.d (.s (bs []))), (.d (.s (bs []))), (.d (.s (bs []))), (.nil 10), (.nil 6)]), (1, [(.d (.i .i64 p0.kind)), (.d (.i .i64 p0.op)), (.d (.b p0.not_)), (.d (.i .i64 p0.value.kind)), (.d (.i .i64 p0.value.num)), (.d (.s (bs p0.value.text))), (.d (.s (bs p0.qual))), (.d (.s (bs p0.name))), (.d (.sl 10 (p0.kids.map cGExpr))), (.d (.sl 6 (p0.sub.map cGQuery)))])]⟩) (by kernel_rfl) ?_
    refine nil_in ?_
    refine next_in ?_
    refine seq_in ?_
    refine ops_in ?_
    refine sts_ok 4 (s' := ⟨[(19, (.ptr 3 6)), (18, (.d (.s (bs p0.qual)))), (17, (.ptr 1 6)), (16, (.ptr 3 3)), (15, (vGValue y1)), (14, (vGValue p0.value)), (13, (.ptr 1 3)), (12, (.ptr 3 2)), (11, (.d (.b p0.not_))), (10, (.ptr 1 2)), (9, (.ptr 3 1)), (8, (.d (.i .i64 p0.op))), (7, (.ptr 1 1)), (6, (.ptr 3 0)), (5, (.d (.i .i64 p0.kind))), (4, (.ptr 1 0)), (3, (.ptr 3 0)), (2, (.ptr 2 0)), (1, (.ptr 1 0)), (0, (vGExpr p0))], [(3, [(.d (.i .i64 p0.kind)), (.d (.i .i64 p0.op)), (.d (.b p0.not_)), (.d (.i .i64 y1.kind)), (.d (.i .i64 y1.num)), (.d (.s (bs y1.text))), (.d (.s (bs p0.qual))), (.d (.s (bs []))), (.nil 10), (.nil 6)]), (2, [(.d (.i .i64 0)), (.d (.i .i64 0)), (.d (.b false)), (.d (.i .i64 0)), (.d (.i .i64 0)), (.d (.s (bs []))), (.d (.s (bs []))), (.d (.s (bs []))), (.nil 10), (.nil 6)]), (1, [(.d (.i .i64 p0.kind)), (.d (.i .i64 p0.op)), (.d (.b p0.not_)), (.d (.i .i64 p0.value.kind)), (.d (.i .i64 p0.value.num)), (.d (.s (bs p0.value.text))), (.d (.s (bs p0.qual))), (.d (.s (bs p0.name))), (.d (.sl 10 (p0.kids.map cGExpr))), (.d (.sl 6 (p0.sub.map cGQuery)))])]⟩) (by kernel_rfl) ?_
    refine nil_in ?_
    refine next_in ?_
    refine seq_in ?_
    refine ops_in ?_
    refine sts_ok 4 (s' := ⟨[(22, (.ptr 3 7)), (21, (.d (.s (bs p0.name)))), (20, (.ptr 1 7)), (19, (.ptr 3 6)), (18, (.d (.s (bs p0.qual)))), (17, (.ptr 1 6)), (16, (.ptr 3 3)), (15, (vGValue y1)), (14, (vGValue p0.value)), (13, (.ptr 1 3)), (12, (.ptr 3 2)), (11, (.d (.b p0.not_))), (10, (.ptr 1 2)), (9, (.ptr 3 1)), (8, (.d (.i .i64 p0.op))), (7, (.ptr 1 1)), (6, (.ptr 3 0)), (5, (.d (.i .i64 p0.kind))), (4, (.ptr 1 0)), (3, (.ptr 3 0)), (2, (.ptr 2 0)), (1, (.ptr 1 0)), (0, (vGExpr p0))], [(3, [(.d (.i .i64 p0.kind)), (.d (.i .i64 p0.op)), (.d (.b p0.not_)), (.d (.i .i64 y1.kind)), (.d (.i .i64 y1.num)), (.d (.s (bs y1.text))), (.d (.s (bs p0.qual))), (.d (.s (bs p0.name))), (.nil 10), (.nil 6)]), (2, [(.d (.i .i64 0)), (.d (.i .i64 0)), (.d (.b false)), (.d (.i .i64 0)), (.d (.i .i64 0)), (.d (.s (bs []))), (.d (.s (bs []))), (.d (.s (bs []))), (.nil 10), (.nil 6)]), (1, [(.d (.i .i64 p0.kind)), (.d (.i .i64 p0.op)), (.d (.b p0.not_)), (.d (.i .i64 p0.value.kind)), (.d (.i .i64 p0.value.num)), (.d (.s (bs p0.value.text))), (.d (.s (bs p0.qual))), (.d (.s (bs p0.name))), (.d (.sl 10 (p0.kids.map cGExpr))), (.d (.sl 6 (p0.sub.map cGQuery)))])]⟩) (by kernel_rfl) ?_
    refine nil_in ?_
    refine next_in ?_
    refine seq_in ?_
    refine ops_in ?_
    refine sts_ok 2 (s' := ⟨[(24, (.d (.sl 10 (p0.kids.map cGExpr)))), (23, (.ptr 1 8)), (22, (.ptr 3 7)), (21, (.d (.s (bs p0.name)))), (20, (.ptr 1 7)), (19, (.ptr 3 6)), (18, (.d (.s (bs p0.qual)))), (17, (.ptr 1 6)), (16, (.ptr 3 3)), (15, (vGValue y1)), (14, (vGValue p0.value)), (13, (.ptr 1 3)), (12, (.ptr 3 2)), (11, (.d (.b p0.not_))), (10, (.ptr 1 2)), (9, (.ptr 3 1)), (8, (.d (.i .i64 p0.op))), (7, (.ptr 1 1)), (6, (.ptr 3 0)), (5, (.d (.i .i64 p0.kind))), (4, (.ptr 1 0)), (3, (.ptr 3 0)), (2, (.ptr 2 0)), (1, (.ptr 1 0)), (0, (vGExpr p0))], [(3, [(.d (.i .i64 p0.kind)), (.d (.i .i64 p0.op)), (.d (.b p0.not_)), (.d (.i .i64 y1.kind)), (.d (.i .i64 y1.num)), (.d (.s (bs y1.text))), (.d (.s (bs p0.qual))), (.d (.s (bs p0.name))), (.nil 10), (.nil 6)]), (2, [(.d (.i .i64 0)), (.d (.i .i64 0)), (.d (.b false)), (.d (.i .i64 0)), (.d (.i .i64 0)), (.d (.s (bs []))), (.d (.s (bs []))), (.d (.s (bs []))), (.nil 10), (.nil 6)]), (1, [(.d (.i .i64 p0.kind)), (.d (.i .i64 p0.op)), (.d (.b p0.not_)), (.d (.i .i64 p0.value.kind)), (.d (.i .i64 p0.value.num)), (.d (.s (bs p0.value.text))), (.d (.s (bs p0.qual))), (.d (.s (bs p0.name))), (.d (.sl 10 (p0.kids.map cGExpr))), (.d (.sl 6 (p0.sub.map cGQuery)))])]⟩) (by kernel_rfl) ?_
    refine call_step (m := F_wToExprS p0.kids) (args := [(.d (.sl 10 (p0.kids.map cGExpr)))]) (v' := (fun y => (.d (.sl 10 (y.map cGExpr))))) h (OK_wToExprS p0.kids) (by kernel_rfl) (by kernel_rfl) (fun _ => rfl) ?_
    clear h; intro y2 h
    refine sts_ok 2 (s' := ⟨[(26, (.ptr 3 8)), (25, (.d (.sl 10 (y2.map cGExpr)))), (24, (.d (.sl 10 (p0.kids.map cGExpr)))), (23, (.ptr 1 8)), (22, (.ptr 3 7)), (21, (.d (.s (bs p0.name)))), (20, (.ptr 1 7)), (19, (.ptr 3 6)), (18, (.d (.s (bs p0.qual)))), (17, (.ptr 1 6)), (16, (.ptr 3 3)), (15, (vGValue y1)), (14, (vGValue p0.value)), (13, (.ptr 1 3)), (12, (.ptr 3 2)), (11, (.d (.b p0.not_))), (10, (.ptr 1 2)), (9, (.ptr 3 1)), (8, (.d (.i .i64 p0.op))), (7, (.ptr 1 1)), (6, (.ptr 3 0)), (5, (.d (.i .i64 p0.kind))), (4, (.ptr 1 0)), (3, (.ptr 3 0)), (2, (.ptr 2 0)), (1, (.ptr 1 0)), (0, (vGExpr p0))], [(3, [(.d (.i .i64 p0.kind)), (.d (.i .i64 p0.op)), (.d (.b p0.not_)), (.d (.i .i64 y1.kind)), (.d (.i .i64 y1.num)), (.d (.s (bs y1.text))), (.d (.s (bs p0.qual))), (.d (.s (bs p0.name))), (.d (.sl 10 (y2.map cGExpr))), (.nil 6)]), (2, [(.d (.i .i64 0)), (.d (.i .i64 0)), (.d (.b false)), (.d (.i .i64 0)), (.d (.i .i64 0)), (.d (.s (bs []))), (.d (.s (bs []))), (.d (.s (bs []))), (.nil 10), (.nil 6)]), (1, [(.d (.i .i64 p0.kind)), (.d (.i .i64 p0.op)), (.d (.b p0.not_)), (.d (.i .i64 p0.value.kind)), (.d (.i .i64 p0.value.num)), (.d (.s (bs p0.value.text))), (.d (.s (bs p0.qual))), (.d (.s (bs p0.name))), (.d (.sl 10 (p0.kids.map cGExpr))), (.d (.sl 6 (p0.sub.map cGQuery)))])]⟩) (by kernel_rfl) ?_
    refine nil_in ?_
    refine next_in ?_
    refine seq_in ?_
    refine ops_in ?_
    refine sts_ok 2 (s' := ⟨[(28, (.d (.sl 6 (p0.sub.map cGQuery)))), (27, (.ptr 1 9)), (26, (.ptr 3 8)), (25, (.d (.sl 10 (y2.map cGExpr)))), (24, (.d (.sl 10 (p0.kids.map cGExpr)))), (23, (.ptr 1 8)), (22, (.ptr 3 7)), (21, (.d (.s (bs p0.name)))), (20, (.ptr 1 7)), (19, (.ptr 3 6)), (18, (.d (.s (bs p0.qual)))), (17, (.ptr 1 6)), (16, (.ptr 3 3)), (15, (vGValue y1)), (14, (vGValue p0.value)), (13, (.ptr 1 3)), (12, (.ptr 3 2)), (11, (.d (.b p0.not_))), (10, (.ptr 1 2)), (9, (.ptr 3 1)), (8, (.d (.i .i64 p0.op))), (7, (.ptr 1 1)), (6, (.ptr 3 0)), (5, (.d (.i .i64 p0.kind))), (4, (.ptr 1 0)), (3, (.ptr 3 0)), (2, (.ptr 2 0)), (1, (.ptr 1 0)), (0, (vGExpr p0))], [(3, [(.d (.i .i64 p0.kind)), (.d (.i .i64 p0.op)), (.d (.b p0.not_)), (.d (.i .i64 y1.kind)), (.d (.i .i64 y1.num)), (.d (.s (bs y1.text))), (.d (.s (bs p0.qual))), (.d (.s (bs p0.name))), (.d (.sl 10 (y2.map cGExpr))), (.nil 6)]), (2, [(.d (.i .i64 0)), (.d (.i .i64 0)), (.d (.b false)), (.d (.i .i64 0)), (.d (.i .i64 0)), (.d (.s (bs []))), (.d (.s (bs []))), (.d (.s (bs []))), (.nil 10), (.nil 6)]), (1, [(.d (.i .i64 p0.kind)), (.d (.i .i64 p0.op)), (.d (.b p0.not_)), (.d (.i .i64 p0.value.kind)), (.d (.i .i64 p0.value.num)), (.d (.s (bs p0.value.text))), (.d (.s (bs p0.qual))), (.d (.s (bs p0.name))), (.d (.sl 10 (p0.kids.map cGExpr))), (.d (.sl 6 (p0.sub.map cGQuery)))])]⟩) (by kernel_rfl) ?_
    refine call_step (m := F_wToQueryS p0.sub) (args := [(.d (.sl 6 (p0.sub.map cGQuery)))]) (v' := (fun y => (.d (.sl 6 (y.map cGQuery))))) h (OK_wToQueryS p0.sub) (by kernel_rfl) (by kernel_rfl) (fun _ => rfl) ?_
    clear h; intro y3 h
    refine sts_ok 2 (s' := ⟨[(30, (.ptr 3 9)), (29, (.d (.sl 6 (y3.map cGQuery)))), (28, (.d (.sl 6 (p0.sub.map cGQuery)))), (27, (.ptr 1 9)), (26, (.ptr 3 8)), (25, (.d (.sl 10 (y2.map cGExpr)))), (24, (.d (.sl 10 (p0.kids.map cGExpr)))), (23, (.ptr 1 8)), (22, (.ptr 3 7)), (21, (.d (.s (bs p0.name)))), (20, (.ptr 1 7)), (19, (.ptr 3 6)), (18, (.d (.s (bs p0.qual)))), (17, (.ptr 1 6)), (16, (.ptr 3 3)), (15, (vGValue y1)), (14, (vGValue p0.value)), (13, (.ptr 1 3)), (12, (.ptr 3 2)), (11, (.d (.b p0.not_))), (10, (.ptr 1 2)), (9, (.ptr 3 1)), (8, (.d (.i .i64 p0.op))), (7, (.ptr 1 1)), (6, (.ptr 3 0)), (5, (.d (.i .i64 p0.kind))), (4, (.ptr 1 0)), (3, (.ptr 3 0)), (2, (.ptr 2 0)), (1, (.ptr 1 0)), (0, (vGExpr p0))], [(3, [(.d (.i .i64 p0.kind)), (.d (.i .i64 p0.op)), (.d (.b p0.not_)), (.d (.i .i64 y1.kind)), (.d (.i .i64 y1.num)), (.d (.s (bs y1.text))), (.d (.s (bs p0.qual))), (.d (.s (bs p0.name))), (.d (.sl 10 (y2.map cGExpr))), (.d (.sl 6 (y3.map cGQuery)))]), (2, [(.d (.i .i64 0)), (.d (.i .i64 0)), (.d (.b false)), (.d (.i .i64 0)), (.d (.i .i64 0)), (.d (.s (bs []))), (.d (.s (bs []))), (.d (.s (bs []))), (.nil 10), (.nil 6)]), (1, [(.d (.i .i64 p0.kind)), (.d (.i .i64 p0.op)), (.d (.b p0.not_)), (.d (.i .i64 p0.value.kind)), (.d (.i .i64 p0.value.num)), (.d (.s (bs p0.value.text))), (.d (.s (bs p0.qual))), (.d (.s (bs p0.name))), (.d (.sl 10 (p0.kids.map cGExpr))), (.d (.sl 6 (p0.sub.map cGQuery)))])]⟩) (by kernel_rfl) ?_
    refine nil_in ?_
    refine next_in ?_
    refine seq_in ?_
    refine ops_in ?_
    refine sts_ok 2 (s' := ⟨[(31, (vGExpr (GExpr.mk p0.kind p0.op p0.not_ y1 p0.qual p0.name y2 y3))), (30, (.ptr 3 9)), (29, (.d (.sl 6 (y3.map cGQuery)))), (28, (.d (.sl 6 (p0.sub.map cGQuery)))), (27, (.ptr 1 9)), (26, (.ptr 3 8)), (25, (.d (.sl 10 (y2.map cGExpr)))), (24, (.d (.sl 10 (p0.kids.map cGExpr)))), (23, (.ptr 1 8)), (22, (.ptr 3 7)), (21, (.d (.s (bs p0.name)))), (20, (.ptr 1 7)), (19, (.ptr 3 6)), (18, (.d (.s (bs p0.qual)))), (17, (.ptr 1 6)), (16, (.ptr 3 3)), (15, (vGValue y1)), (14, (vGValue p0.value)), (13, (.ptr 1 3)), (12, (.ptr 3 2)), (11, (.d (.b p0.not_))), (10, (.ptr 1 2)), (9, (.ptr 3 1)), (8, (.d (.i .i64 p0.op))), (7, (.ptr 1 1)), (6, (.ptr 3 0)), (5, (.d (.i .i64 p0.kind))), (4, (.ptr 1 0)), (3, (.ptr 3 0)), (2, (.ptr 2 0)), (1, (.ptr 1 0)), (0, (vGExpr p0))], [(3, [(.d (.i .i64 p0.kind)), (.d (.i .i64 p0.op)), (.d (.b p0.not_)), (.d (.i .i64 y1.kind)), (.d (.i .i64 y1.num)), (.d (.s (bs y1.text))), (.d (.s (bs p0.qual))), (.d (.s (bs p0.name))), (.d (.sl 10 (y2.map cGExpr))), (.d (.sl 6 (y3.map cGQuery)))]), (2, [(.d (.i .i64 p0.kind)), (.d (.i .i64 p0.op)), (.d (.b p0.not_)), (.d (.i .i64 y1.kind)), (.d (.i .i64 y1.num)), (.d (.s (bs y1.text))), (.d (.s (bs p0.qual))), (.d (.s (bs p0.name))), (.d (.sl 10 (y2.map cGExpr))), (.d (.sl 6 (y3.map cGQuery)))]), (1, [(.d (.i .i64 p0.kind)), (.d (.i .i64 p0.op)), (.d (.b p0.not_)), (.d (.i .i64 p0.value.kind)), (.d (.i .i64 p0.value.num)), (.d (.s (bs p0.value.text))), (.d (.s (bs p0.qual))), (.d (.s (bs p0.name))), (.d (.sl 10 (p0.kids.map cGExpr))), (.d (.sl 6 (p0.sub.map cGQuery)))])]⟩) (by kernel_rfl) ?_
    refine nil_in ?_
    refine next_in ?_
    refine ret_in ?_
    have h := Option.some.inj h; subst h
    exact ret1_step (v := (vGExpr (GExpr.mk p0.kind p0.op p0.not_ y1 p0.qual p0.name y2 y3))) (by kernel_rfl) (by kernel_rfl) (by kernel_rfl)
  · intro F_wToQueryS_L0 OK_wToQueryS_L0 p0 r h
    refine acalls_of_fn trwToQueryS (Nat.le_of_ble_eq_true rfl) (by simp) ?_
    show avc Try.prog acwToQueryS (qwToQueryS _) ⟨[(0, (.d (.sl 6 (p0.map cGQuery))))], []⟩
    delta acwToQueryS
    refine seq_in ?_
    refine ops_in ?_
    refine sts_ok 1 (s' := ⟨[(2, (.nil 6)), (0, (.d (.sl 6 (p0.map cGQuery))))], []⟩) (by kernel_rfl) ?_
    refine nil_in ?_
    refine next_in ?_
    refine seq_in ?_
    refine ops_in ?_
    refine sts_ok 1 (s' := ⟨[(5, (.d (.sl 6 (p0.map cGQuery)))), (2, (.nil 6)), (0, (.d (.sl 6 (p0.map cGQuery))))], []⟩) (by kernel_rfl) ?_
    refine p_step (v' := (.d (.i .i64 (p0.length : Int)))) rfl rfl (vop_len (sz := 6) (l := p0) (f := cGQuery) (by kernel_rfl) (by kernel_rfl)) ?_
    refine mks_step (k := .i64) (k' := .i64) (z := ((GQuery.mk false ([] : List GItem) ([] : List GSource) ([] : List GExpr) ([] : List GSortKey) 0) : GQuery)) (f := cGQuery) (S' := fun y => ⟨[(7, (.msl 7 6 0 y.length y.length)), (6, (.d (.i .i64 (p0.length : Int)))), (5, (.d (.sl 6 (p0.map cGQuery)))), (2, (.nil 6)), (0, (.d (.sl 6 (p0.map cGQuery))))], [(7, rowsV (y.map cGQuery))]⟩) h (by kernel_rfl) (by kernel_rfl) (by kernel_rfl) (by kernel_rfl) (by kernel_rfl) (fun y => by kernel_rfl) ?_
    clear h; intro y1 h
    refine sts_ok 1 (s' := ⟨[(3, (.msl 7 6 0 y1.length y1.length)), (7, (.msl 7 6 0 y1.length y1.length)), (6, (.d (.i .i64 (p0.length : Int)))), (5, (.d (.sl 6 (p0.map cGQuery)))), (2, (.nil 6)), (0, (.d (.sl 6 (p0.map cGQuery))))], [(7, rowsV (y1.map cGQuery))]⟩) (by kernel_rfl) ?_
    refine nil_in ?_
    refine next_in ?_
    refine seq_in ?_
    refine seq_in ?_
    refine ops_in ?_
    refine sts_ok 1 (s' := ⟨[(4, (.d (.i .i64 0))), (3, (.msl 7 6 0 y1.length y1.length)), (7, (.msl 7 6 0 y1.length y1.length)), (6, (.d (.i .i64 (p0.length : Int)))), (5, (.d (.sl 6 (p0.map cGQuery)))), (2, (.nil 6)), (0, (.d (.sl 6 (p0.map cGQuery))))], [(7, rowsV (y1.map cGQuery))]⟩) (by kernel_rfl) ?_
    refine nil_in ?_
    refine next_in ?_
    refine block_in ?_
    exact loop_go (s' := stwToQueryS_L0 p0 0 y1) (wk_ren [] (by kernel_rfl) (er_cons (vr_same (by kernel_rfl) (by kernel_rfl)) (er_cons (vr_same (by kernel_rfl) (by kernel_rfl)) (er_cons (vr_same (by kernel_rfl) (by kernel_rfl)) (er_nil)))) (br_rows (by kernel_rfl) (br_nil))) (OK_wToQueryS_L0 p0 0 y1 _ h)
  · intro F_wToQueryS_L0 F_wToQuery OK_wToQueryS_L0 OK_wToQuery p0 x4 b7_0 r h
    delta acwToQueryS_L0
    refine loop_unroll ?_
    refine seq_in ?_
    refine seq_in ?_
    refine ops_in ?_
    refine sts_ok 2 (s' := ⟨(9, (.d (.sl 6 (p0.map cGQuery)))) :: (8, (.d (.i .i64 x4))) :: (stwToQueryS_L0 p0 x4 b7_0).env, (stwToQueryS_L0 p0 x4 b7_0).bx⟩) (by kernel_rfl) ?_
    refine p_step (v' := (.d (.i .i64 (p0.length : Int)))) rfl rfl (vop_len (sz := 6) (l := p0) (f := cGQuery) (by kernel_rfl) (by kernel_rfl)) ?_
    refine sts_ok 1 (s' := ⟨(11, (.d (.b (decide (x4 < (p0.length : Int)))))) :: (10, (.d (.i .i64 (p0.length : Int)))) :: (9, (.d (.sl 6 (p0.map cGQuery)))) :: (8, (.d (.i .i64 x4))) :: (stwToQueryS_L0 p0 x4 b7_0).env, (stwToQueryS_L0 p0 x4 b7_0).bx⟩) (by kernel_rfl) ?_
    refine nil_in ?_
    refine next_in ?_
    refine cond_step h (by kernel_rfl) ?_ ?_
    · clear h; intro h
      refine skip_in ?_
      refine next_in ?_
      refine seq_in ?_
      refine block_in ?_
      refine ops_in ?_
      refine sts_ok 4 (s' := ⟨(17, (.d (.i .i64 x4))) :: (16, (.d (.sl 6 (p0.map cGQuery)))) :: (15, (.d (.i .i64 x4))) :: (14, (.msl 7 6 0 b7_0.length b7_0.length)) :: (11, (.d (.b (decide (x4 < (p0.length : Int)))))) :: (10, (.d (.i .i64 (p0.length : Int)))) :: (9, (.d (.sl 6 (p0.map cGQuery)))) :: (8, (.d (.i .i64 x4))) :: (stwToQueryS_L0 p0 x4 b7_0).env, (stwToQueryS_L0 p0 x4 b7_0).bx⟩) (by kernel_rfl) ?_
      refine v_step (m := idx p0 x4) (v' := fun y => (.rp [(.b y.distinct), (.sl 13 (y.items.map cGItem)), (.sl 3 (y.from_.map cGSource)), (.sl 10 (y.where_.map cGExpr)), (.sl 11 (y.order.map cGSortKey)), (.i .i64 y.limit)])) h rfl rfl (fun y hy => vop_ia (l := p0) (f := cGQuery) (g := oGQuery) (k := .i64) hy cGQuery_eq (by kernel_rfl) (by kernel_rfl) (by kernel_rfl)) ?_
      clear h; intro y2 h
      refine sts_ok 1 (s' := ⟨(19, (vGQuery y2)) :: (18, (.rp [(.b y2.distinct), (.sl 13 (y2.items.map cGItem)), (.sl 3 (y2.from_.map cGSource)), (.sl 10 (y2.where_.map cGExpr)), (.sl 11 (y2.order.map cGSortKey)), (.i .i64 y2.limit)])) :: (17, (.d (.i .i64 x4))) :: (16, (.d (.sl 6 (p0.map cGQuery)))) :: (15, (.d (.i .i64 x4))) :: (14, (.msl 7 6 0 b7_0.length b7_0.length)) :: (11, (.d (.b (decide (x4 < (p0.length : Int)))))) :: (10, (.d (.i .i64 (p0.length : Int)))) :: (9, (.d (.sl 6 (p0.map cGQuery)))) :: (8, (.d (.i .i64 x4))) :: (stwToQueryS_L0 p0 x4 b7_0).env, (stwToQueryS_L0 p0 x4 b7_0).bx⟩) (by kernel_rfl) ?_
      refine call_step (m := F_wToQuery y2) (args := [(vGQuery y2)]) (v' := (fun y => (vGQuery y))) h (OK_wToQuery y2) (by kernel_rfl) (by kernel_rfl) (fun _ => rfl) ?_
      clear h; intro y3 h
      refine v_step (m := idx b7_0 x4) (v' := fun y => (.ptr 7 ((0 + (x4).toNat) * 6))) h rfl rfl (fun y hy => vop_iaE (l := b7_0) (k := .i64) hy (by kernel_rfl) (by kernel_rfl) (by kernel_rfl)) ?_
      clear h; intro y4 h
      refine sti_step (b := 7) (i := x4) (l := b7_0) (v := y3) (f := cGQuery) (u := (vGQuery y3)) (T := fun y m => ⟨[(21, (.ptr 7 ((0 + (x4).toNat) * 6))), (20, (vGQuery y3)), (19, (vGQuery y2)), (18, (.rp [(.b y2.distinct), (.sl 13 (y2.items.map cGItem)), (.sl 3 (y2.from_.map cGSource)), (.sl 10 (y2.where_.map cGExpr)), (.sl 11 (y2.order.map cGSortKey)), (.i .i64 y2.limit)])), (17, (.d (.i .i64 x4))), (16, (.d (.sl 6 (p0.map cGQuery)))), (15, (.d (.i .i64 x4))), (14, (.msl 7 6 0 m m)), (11, (.d (.b (decide (x4 < (p0.length : Int)))))), (10, (.d (.i .i64 (p0.length : Int)))), (9, (.d (.sl 6 (p0.map cGQuery)))), (8, (.d (.i .i64 x4))), (0, (.d (.sl 6 (p0.map cGQuery)))), (3, (.msl 7 6 0 m m)), (4, (.d (.i .i64 x4)))], [(7, rowsV (y.map cGQuery))]⟩) h (by kernel_rfl) (by kernel_rfl) (by kernel_rfl) (congrArg (List.map V.d) (cGQuery_eq y3).symm) (fun y => (congrArg List.length (cGQuery_eq y)).trans rfl) (by kernel_rfl) (fun y => by kernel_rfl) ?_
      clear h; intro y5 h
      refine nil_in ?_
      refine blockK_norm ?_
      refine next_in ?_
      refine ops_in ?_
      refine sts_ok 3 (s' := ⟨[(4, (.d (.i .i64 (IntKind.wrap .i64 (x4 + 1))))), (13, (.d (.i .i64 (IntKind.wrap .i64 (x4 + 1))))), (12, (.d (.i .i64 x4))), (21, (.ptr 7 ((0 + (x4).toNat) * 6))), (20, (vGQuery y3)), (19, (vGQuery y2)), (18, (.rp [(.b y2.distinct), (.sl 13 (y2.items.map cGItem)), (.sl 3 (y2.from_.map cGSource)), (.sl 10 (y2.where_.map cGExpr)), (.sl 11 (y2.order.map cGSortKey)), (.i .i64 y2.limit)])), (17, (.d (.i .i64 x4))), (16, (.d (.sl 6 (p0.map cGQuery)))), (15, (.d (.i .i64 x4))), (14, (.msl 7 6 0 y5.length y5.length)), (11, (.d (.b (decide (x4 < (p0.length : Int)))))), (10, (.d (.i .i64 (p0.length : Int)))), (9, (.d (.sl 6 (p0.map cGQuery)))), (8, (.d (.i .i64 x4))), (0, (.d (.sl 6 (p0.map cGQuery)))), (3, (.msl 7 6 0 y5.length y5.length)), (4, (.d (.i .i64 x4)))], [(7, rowsV (y5.map cGQuery))]⟩) (by kernel_rfl) ?_
      refine nil_in ?_
      exact loop_back (s' := stwToQueryS_L0 p0 (IntKind.wrap .i64 (x4 + 1)) y5) (wk_ren [] (by kernel_rfl) (er_cons (vr_same (by kernel_rfl) (by kernel_rfl)) (er_cons (vr_same (by kernel_rfl) (by kernel_rfl)) (er_cons (vr_same (by kernel_rfl) (by kernel_rfl)) (er_nil)))) (br_rows (by kernel_rfl) (br_nil))) (OK_wToQueryS_L0 p0 (IntKind.wrap .i64 (x4 + 1)) y5 _ h)
    · clear h; intro h
      refine exit_in ?_
      refine thenK_exit ?_
      refine thenK_exit ?_
      refine blockK_here ?_
      refine next_in ?_
      refine seq_in ?_
      refine ops_in ?_
      refine sts_ok 2 (s' := ⟨(2, (.msl 7 6 0 b7_0.length b7_0.length)) :: (22, (.msl 7 6 0 b7_0.length b7_0.length)) :: (11, (.d (.b (decide (x4 < (p0.length : Int)))))) :: (10, (.d (.i .i64 (p0.length : Int)))) :: (9, (.d (.sl 6 (p0.map cGQuery)))) :: (8, (.d (.i .i64 x4))) :: (stwToQueryS_L0 p0 x4 b7_0).env, (stwToQueryS_L0 p0 x4 b7_0).bx⟩) (by kernel_rfl) ?_
      refine nil_in ?_
      refine next_in ?_
      refine ret_frz (n := 7) (sz := 6) (l := b7_0) (f := cGQuery) (s' := ⟨[(2, (.d (.sl 6 (b7_0.map cGQuery))))], []⟩) (by decide) (fun y => (congrArg List.length (cGQuery_eq y)).trans rfl) (by kernel_rfl) (⟨.inr ⟨b7_0.length, b7_0.length, by kernel_rfl, lms b7_0 _, by kernel_rfl⟩, trivial⟩) (trivial) ?_
      refine ret_in ?_
      have h := Option.some.inj h; subst h
      exact ret1_step (v := (.d (.sl 6 (b7_0.map cGQuery)))) (by kernel_rfl) (by kernel_rfl) (by kernel_rfl)
  · intro F_wToExprS F_wToSortKeyS F_wToSourceS F_wToItemS OK_wToExprS OK_wToSortKeyS OK_wToSourceS OK_wToItemS p0 r h
    refine acalls_of_fn trwToQuery (Nat.le_of_ble_eq_true rfl) (by simp) ?_
    show avc Try.prog acwToQuery (qwToQuery _) ⟨[(0, (vGQuery p0))], []⟩
    delta acwToQuery
    refine seq_in ?_
    refine ops_in ?_
    refine sts_ok 2 (s' := ⟨[(2, (.ptr 2 0)), (1, (.ptr 1 0)), (0, (vGQuery p0))], [(2, [(.d (.b false)), (.nil 13), (.nil 3), (.nil 10), (.nil 11), (.d (.i .i64 0))]), (1, [(.d (.b p0.distinct)), (.d (.sl 13 (p0.items.map cGItem))), (.d (.sl 3 (p0.from_.map cGSource))), (.d (.sl 10 (p0.where_.map cGExpr))), (.d (.sl 11 (p0.order.map cGSortKey))), (.d (.i .i64 p0.limit))])]⟩) (by kernel_rfl) ?_
    refine nil_in ?_
    refine next_in ?_
    refine seq_in ?_
    refine ops_in ?_
    refine sts_ok 1 (s' := ⟨[(3, (.ptr 3 0)), (2, (.ptr 2 0)), (1, (.ptr 1 0)), (0, (vGQuery p0))], [(3, [(.d (.b false)), (.nil 13), (.nil 3), (.nil 10), (.nil 11), (.d (.i .i64 0))]), (2, [(.d (.b false)), (.nil 13), (.nil 3), (.nil 10), (.nil 11), (.d (.i .i64 0))]), (1, [(.d (.b p0.distinct)), (.d (.sl 13 (p0.items.map cGItem))), (.d (.sl 3 (p0.from_.map cGSource))), (.d (.sl 10 (p0.where_.map cGExpr))), (.d (.sl 11 (p0.order.map cGSortKey))), (.d (.i .i64 p0.limit))])]⟩) (by kernel_rfl) ?_
    refine nil_in ?_
    refine next_in ?_
    refine seq_in ?_
    refine ops_in ?_
    refine sts_ok 4 (s' := ⟨[(6, (.ptr 3 0)), (5, (.d (.b p0.distinct))), (4, (.ptr 1 0)), (3, (.ptr 3 0)), (2, (.ptr 2 0)), (1, (.ptr 1 0)), (0, (vGQuery p0))], [(3, [(.d (.b p0.distinct)), (.nil 13), (.nil 3), (.nil 10), (.nil 11), (.d (.i .i64 0))]), (2, [(.d (.b false)), (.nil 13), (.nil 3), (.nil 10), (.nil 11), (.d (.i .i64 0))]), (1, [(.d (.b p0.distinct)), (.d (.sl 13 (p0.items.map cGItem))), (.d (.sl 3 (p0.from_.map cGSource))), (.d (.sl 10 (p0.where_.map cGExpr))), (.d (.sl 11 (p0.order.map cGSortKey))), (.d (.i .i64 p0.limit))])]⟩) (by kernel_rfl) ?_
    refine nil_in ?_
    refine next_in ?_
    refine seq_in ?_
    refine ops_in ?_
    refine sts_ok 2 (s' := ⟨[(8, (.d (.sl 13 (p0.items.map cGItem)))), (7, (.ptr 1 1)), (6, (.ptr 3 0)), (5, (.d (.b p0.distinct))), (4, (.ptr 1 0)), (3, (.ptr 3 0)), (2, (.ptr 2 0)), (1, (.ptr 1 0)), (0, (vGQuery p0))], [(3, [(.d (.b p0.distinct)), (.nil 13), (.nil 3), (.nil 10), (.nil 11), (.d (.i .i64 0))]), (2, [(.d (.b false)), (.nil 13), (.nil 3), (.nil 10), (.nil 11), (.d (.i .i64 0))]), (1, [(.d (.b p0.distinct)), (.d (.sl 13 (p0.items.map cGItem))), (.d (.sl 3 (p0.from_.map cGSource))), (.d (.sl 10 (p0.where_.map cGExpr))), (.d (.sl 11 (p0.order.map cGSortKey))), (.d (.i .i64 p0.limit))])]⟩) (by kernel_rfl) ?_
    refine call_step (m := F_wToItemS p0.items) (args := [(.d (.sl 13 (p0.items.map cGItem)))]) (v' := (fun y => (.d (.sl 13 (y.map cGItem))))) h (OK_wToItemS p0.items) (by kernel_rfl) (by kernel_rfl) (fun _ => rfl) ?_
    clear h; intro y1 h
    refine sts_ok 2 (s' := ⟨[(10, (.ptr 3 1)), (9, (.d (.sl 13 (y1.map cGItem)))), (8, (.d (.sl 13 (p0.items.map cGItem)))), (7, (.ptr 1 1)), (6, (.ptr 3 0)), (5, (.d (.b p0.distinct))), (4, (.ptr 1 0)), (3, (.ptr 3 0)), (2, (.ptr 2 0)), (1, (.ptr 1 0)), (0, (vGQuery p0))], [(3, [(.d (.b p0.distinct)), (.d (.sl 13 (y1.map cGItem))), (.nil 3), (.nil 10), (.nil 11), (.d (.i .i64 0))]), (2, [(.d (.b false)), (.nil 13), (.nil 3), (.nil 10), (.nil 11), (.d (.i .i64 0))]), (1, [(.d (.b p0.distinct)), (.d (.sl 13 (p0.items.map cGItem))), (.d (.sl 3 (p0.from_.map cGSource))), (.d (.sl 10 (p0.where_.map cGExpr))), (.d (.sl 11 (p0.order.map cGSortKey))), (.d (.i .i64 p0.limit))])]⟩) (by kernel_rfl) ?_
    refine nil_in ?_
    refine next_in ?_
    refine seq_in ?_
    refine ops_in ?_
    refine sts_ok 2 (s' := ⟨[(12, (.d (.sl 3 (p0.from_.map cGSource)))), (11, (.ptr 1 2)), (10, (.ptr 3 1)), (9, (.d (.sl 13 (y1.map cGItem)))), (8, (.d (.sl 13 (p0.items.map cGItem)))), (7, (.ptr 1 1)), (6, (.ptr 3 0)), (5, (.d (.b p0.distinct))), (4, (.ptr 1 0)), (3, (.ptr 3 0)), (2, (.ptr 2 0)), (1, (.ptr 1 0)), (0, (vGQuery p0))], [(3, [(.d (.b p0.distinct)), (.d (.sl 13 (y1.map cGItem))), (.nil 3), (.nil 10), (.nil 11), (.d (.i .i64 0))]), (2, [(.d (.b false)), (.nil 13), (.nil 3), (.nil 10), (.nil 11), (.d (.i .i64 0))]), (1, [(.d (.b p0.distinct)), (.d (.sl 13 (p0.items.map cGItem))), (.d (.sl 3 (p0.from_.map cGSource))), (.d (.sl 10 (p0.where_.map cGExpr))), (.d (.sl 11 (p0.order.map cGSortKey))), (.d (.i .i64 p0.limit))])]⟩) (by kernel_rfl) ?_
    refine call_step (m := F_wToSourceS p0.from_) (args := [(.d (.sl 3 (p0.from_.map cGSource)))]) (v' := (fun y => (.d (.sl 3 (y.map cGSource))))) h (OK_wToSourceS p0.from_) (by kernel_rfl) (by kernel_rfl) (fun _ => rfl) ?_
    clear h; intro y2 h
    refine sts_ok 2 (s' := ⟨[(14, (.ptr 3 2)), (13, (.d (.sl 3 (y2.map cGSource)))), (12, (.d (.sl 3 (p0.from_.map cGSource)))), (11, (.ptr 1 2)), (10, (.ptr 3 1)), (9, (.d (.sl 13 (y1.map cGItem)))), (8, (.d (.sl 13 (p0.items.map cGItem)))), (7, (.ptr 1 1)), (6, (.ptr 3 0)), (5, (.d (.b p0.distinct))), (4, (.ptr 1 0)), (3, (.ptr 3 0)), (2, (.ptr 2 0)), (1, (.ptr 1 0)), (0, (vGQuery p0))], [(3, [(.d (.b p0.distinct)), (.d (.sl 13 (y1.map cGItem))), (.d (.sl 3 (y2.map cGSource))), (.nil 10), (.nil 11), (.d (.i .i64 0))]), (2, [(.d (.b false)), (.nil 13), (.nil 3), (.nil 10), (.nil 11), (.d (.i .i64 0))]), (1, [(.d (.b p0.distinct)), (.d (.sl 13 (p0.items.map cGItem))), (.d (.sl 3 (p0.from_.map cGSource))), (.d (.sl 10 (p0.where_.map cGExpr))), (.d (.sl 11 (p0.order.map cGSortKey))), (.d (.i .i64 p0.limit))])]⟩) (by kernel_rfl) ?_
    refine nil_in ?_
    refine next_in ?_
    refine seq_in ?_
    refine ops_in ?_
    refine sts_ok 2 (s' := ⟨[(16, (.d (.sl 10 (p0.where_.map cGExpr)))), (15, (.ptr 1 3)), (14, (.ptr 3 2)), (13, (.d (.sl 3 (y2.map cGSource)))), (12, (.d (.sl 3 (p0.from_.map cGSource)))), (11, (.ptr 1 2)), (10, (.ptr 3 1)), (9, (.d (.sl 13 (y1.map cGItem)))), (8, (.d (.sl 13 (p0.items.map cGItem)))), (7, (.ptr 1 1)), (6, (.ptr 3 0)), (5, (.d (.b p0.distinct))), (4, (.ptr 1 0)), (3, (.ptr 3 0)), (2, (.ptr 2 0)), (1, (.ptr 1 0)), (0, (vGQuery p0))], [(3, [(.d (.b p0.distinct)), (.d (.sl 13 (y1.map cGItem))), (.d (.sl 3 (y2.map cGSource))), (.nil 10), (.nil 11), (.d (.i .i64 0))]), (2, [(.d (.b false)), (.nil 13), (.nil 3), (.nil 10), (.nil 11), (.d (.i .i64 0))]), (1, [(.d (.b p0.distinct)), (.d (.sl 13 (p0.items.map cGItem))), (.d (.sl 3 (p0.from_.map cGSource))), (.d (.sl 10 (p0.where_.map cGExpr))), (.d (.sl 11 (p0.order.map cGSortKey))), (.d (.i .i64 p0.limit))])]⟩) (by kernel_rfl) ?_
    refine call_step (m := F_wToExprS p0.where_) (args := [(.d (.sl 10 (p0.where_.map cGExpr)))]) (v' := (fun y => (.d (.sl 10 (y.map cGExpr))))) h (OK_wToExprS p0.where_) (by kernel_rfl) (by kernel_rfl) (fun _ => rfl) ?_
    clear h; intro y3 h
    refine sts_ok 2 (s' := ⟨[(18, (.ptr 3 3)), (17, (.d (.sl 10 (y3.map cGExpr)))), (16, (.d (.sl 10 (p0.where_.map cGExpr)))), (15, (.ptr 1 3)), (14, (.ptr 3 2)), (13, (.d (.sl 3 (y2.map cGSource)))), (12, (.d (.sl 3 (p0.from_.map cGSource)))), (11, (.ptr 1 2)), (10, (.ptr 3 1)), (9, (.d (.sl 13 (y1.map cGItem)))), (8, (.d (.sl 13 (p0.items.map cGItem)))), (7, (.ptr 1 1)), (6, (.ptr 3 0)), (5, (.d (.b p0.distinct))), (4, (.ptr 1 0)), (3, (.ptr 3 0)), (2, (.ptr 2 0)), (1, (.ptr 1 0)), (0, (vGQuery p0))], [(3, [(.d (.b p0.distinct)), (.d (.sl 13 (y1.map cGItem))), (.d (.sl 3 (y2.map cGSource))), (.d (.sl 10 (y3.map cGExpr))), (.nil 11), (.d (.i .i64 0))]), (2, [(.d (.b false)), (.nil 13), (.nil 3), (.nil 10), (.nil 11), (.d (.i .i64 0))]), (1, [(.d (.b p0.distinct)), (.d (.sl 13 (p0.items.map cGItem))), (.d (.sl 3 (p0.from_.map cGSource))), (.d (.sl 10 (p0.where_.map cGExpr))), (.d (.sl 11 (p0.order.map cGSortKey))), (.d (.i .i64 p0.limit))])]⟩) (by kernel_rfl) ?_
    refine nil_in ?_
    refine next_in ?_
    refine seq_in ?_
    refine ops_in ?_
    refine sts_ok 2 (s' := ⟨[(20, (.d (.sl 11 (p0.order.map cGSortKey)))), (19, (.ptr 1 4)), (18, (.ptr 3 3)), (17, (.d (.sl 10 (y3.map cGExpr)))), (16, (.d (.sl 10 (p0.where_.map cGExpr)))), (15, (.ptr 1 3)), (14, (.ptr 3 2)), (13, (.d (.sl 3 (y2.map cGSource)))), (12, (.d (.sl 3 (p0.from_.map cGSource)))), (11, (.ptr 1 2)), (10, (.ptr 3 1)), (9, (.d (.sl 13 (y1.map cGItem)))), (8, (.d (.sl 13 (p0.items.map cGItem)))), (7, (.ptr 1 1)), (6, (.ptr 3 0)), (5, (.d (.b p0.distinct))), (4, (.ptr 1 0)), (3, (.ptr 3 0)), (2, (.ptr 2 0)), (1, (.ptr 1 0)), (0, (vGQuery p0))], [(3, [(.d (.b p0.distinct)), (.d (.sl 13 (y1.map cGItem))), (.d (.sl 3 (y2.map cGSource))), (.d (.sl 10 (y3.map cGExpr))), (.nil 11), (.d (.i .i64 0))]), (2, [(.d (.b false)), (.nil 13), (.nil 3), (.nil 10), (.nil 11), (.d (.i .i64 0))]), (1, [(.d (.b p0.distinct)), (.d (.sl 13 (p0.items.map cGItem))), (.d (.sl 3 (p0.from_.map cGSource))), (.d (.sl 10 (p0.where_.map cGExpr))), (.d (.sl 11 (p0.order.map cGSortKey))), (.d (.i .i64 p0.limit))])]⟩) (by kernel_rfl) ?_
    refine call_step (m := F_wToSortKeyS p0.order) (args := [(.d (.sl 11 (p0.order.map cGSortKey)))]) (v' := (fun y => (.d (.sl 11 (y.map cGSortKey))))) h (OK_wToSortKeyS p0.order) (by kernel_rfl) (by kernel_rfl) (fun _ => rfl) ?_
    clear h; intro y4 h
    refine sts_ok 2 (s' := ⟨[(22, (.ptr 3 4)), (21, (.d (.sl 11 (y4.map cGSortKey)))), (20, (.d (.sl 11 (p0.order.map cGSortKey)))), (19, (.ptr 1 4)), (18, (.ptr 3 3)), (17, (.d (.sl 10 (y3.map cGExpr)))), (16, (.d (.sl 10 (p0.where_.map cGExpr)))), (15, (.ptr 1 3)), (14, (.ptr 3 2)), (13, (.d (.sl 3 (y2.map cGSource)))), (12, (.d (.sl 3 (p0.from_.map cGSource)))), (11, (.ptr 1 2)), (10, (.ptr 3 1)), (9, (.d (.sl 13 (y1.map cGItem)))), (8, (.d (.sl 13 (p0.items.map cGItem)))), (7, (.ptr 1 1)), (6, (.ptr 3 0)), (5, (.d (.b p0.distinct))), (4, (.ptr 1 0)), (3, (.ptr 3 0)), (2, (.ptr 2 0)), (1, (.ptr 1 0)), (0, (vGQuery p0))], [(3, [(.d (.b p0.distinct)), (.d (.sl 13 (y1.map cGItem))), (.d (.sl 3 (y2.map cGSource))), (.d (.sl 10 (y3.map cGExpr))), (.d (.sl 11 (y4.map cGSortKey))), (.d (.i .i64 0))]), (2, [(.d (.b false)), (.nil 13), (.nil 3), (.nil 10), (.nil 11), (.d (.i .i64 0))]), (1, [(.d (.b p0.distinct)), (.d (.sl 13 (p0.items.map cGItem))), (.d (.sl 3 (p0.from_.map cGSource))), (.d (.sl 10 (p0.where_.map cGExpr))), (.d (.sl 11 (p0.order.map cGSortKey))), (.d (.i .i64 p0.limit))])]⟩) (by kernel_rfl) ?_
    refine nil_in ?_
    refine next_in ?_
    refine seq_in ?_
    refine ops_in ?_
    refine sts_ok 4 (s' := ⟨[(25, (.ptr 3 5)), (24, (.d (.i .i64 p0.limit))), (23, (.ptr 1 5)), (22, (.ptr 3 4)), (21, (.d (.sl 11 (y4.map cGSortKey)))), (20, (.d (.sl 11 (p0.order.map cGSortKey)))), (19, (.ptr 1 4)), (18, (.ptr 3 3)), (17, (.d (.sl 10 (y3.map cGExpr)))), (16, (.d (.sl 10 (p0.where_.map cGExpr)))), (15, (.ptr 1 3)), (14, (.ptr 3 2)), (13, (.d (.sl 3 (y2.map cGSource)))), (12, (.d (.sl 3 (p0.from_.map cGSource)))), (11, (.ptr 1 2)), (10, (.ptr 3 1)), (9, (.d (.sl 13 (y1.map cGItem)))), (8, (.d (.sl 13 (p0.items.map cGItem)))), (7, (.ptr 1 1)), (6, (.ptr 3 0)), (5, (.d (.b p0.distinct))), (4, (.ptr 1 0)), (3, (.ptr 3 0)), (2, (.ptr 2 0)), (1, (.ptr 1 0)), (0, (vGQuery p0))], [(3, [(.d (.b p0.distinct)), (.d (.sl 13 (y1.map cGItem))), (.d (.sl 3 (y2.map cGSource))), (.d (.sl 10 (y3.map cGExpr))), (.d (.sl 11 (y4.map cGSortKey))), (.d (.i .i64 p0.limit))]), (2, [(.d (.b false)), (.nil 13), (.nil 3), (.nil 10), (.nil 11), (.d (.i .i64 0))]), (1, [(.d (.b p0.distinct)), (.d (.sl 13 (p0.items.map cGItem))), (.d (.sl 3 (p0.from_.map cGSource))), (.d (.sl 10 (p0.where_.map cGExpr))), (.d (.sl 11 (p0.order.map cGSortKey))), (.d (.i .i64 p0.limit))])]⟩) (by kernel_rfl) ?_
    refine nil_in ?_
    refine next_in ?_
    refine seq_in ?_
    refine ops_in ?_
    refine sts_ok 2 (s' := ⟨[(26, (vGQuery (GQuery.mk p0.distinct y1 y2 y3 y4 p0.limit))), (25, (.ptr 3 5)), (24, (.d (.i .i64 p0.limit))), (23, (.ptr 1 5)), (22, (.ptr 3 4)), (21, (.d (.sl 11 (y4.map cGSortKey)))), (20, (.d (.sl 11 (p0.order.map cGSortKey)))), (19, (.ptr 1 4)), (18, (.ptr 3 3)), (17, (.d (.sl 10 (y3.map cGExpr)))), (16, (.d (.sl 10 (p0.where_.map cGExpr)))), (15, (.ptr 1 3)), (14, (.ptr 3 2)), (13, (.d (.sl 3 (y2.map cGSource)))), (12, (.d (.sl 3 (p0.from_.map cGSource)))), (11, (.ptr 1 2)), (10, (.ptr 3 1)), (9, (.d (.sl 13 (y1.map cGItem)))), (8, (.d (.sl 13 (p0.items.map cGItem)))), (7, (.ptr 1 1)), (6, (.ptr 3 0)), (5, (.d (.b p0.distinct))), (4, (.ptr 1 0)), (3, (.ptr 3 0)), (2, (.ptr 2 0)), (1, (.ptr 1 0)), (0, (vGQuery p0))], [(3, [(.d (.b p0.distinct)), (.d (.sl 13 (y1.map cGItem))), (.d (.sl 3 (y2.map cGSource))), (.d (.sl 10 (y3.map cGExpr))), (.d (.sl 11 (y4.map cGSortKey))), (.d (.i .i64 p0.limit))]), (2, [(.d (.b p0.distinct)), (.d (.sl 13 (y1.map cGItem))), (.d (.sl 3 (y2.map cGSource))), (.d (.sl 10 (y3.map cGExpr))), (.d (.sl 11 (y4.map cGSortKey))), (.d (.i .i64 p0.limit))]), (1, [(.d (.b p0.distinct)), (.d (.sl 13 (p0.items.map cGItem))), (.d (.sl 3 (p0.from_.map cGSource))), (.d (.sl 10 (p0.where_.map cGExpr))), (.d (.sl 11 (p0.order.map cGSortKey))), (.d (.i .i64 p0.limit))])]⟩) (by kernel_rfl) ?_
    refine nil_in ?_
    refine next_in ?_
    refine ret_in ?_
    have h := Option.some.inj h; subst h
    exact ret1_step (v := (vGQuery (GQuery.mk p0.distinct y1 y2 y3 y4 p0.limit))) (by kernel_rfl) (by kernel_rfl) (by kernel_rfl)
  · intro F_wToSortKeyS_L0 OK_wToSortKeyS_L0 p0 r h
    refine acalls_of_fn trwToSortKeyS (Nat.le_of_ble_eq_true rfl) (by simp) ?_
    show avc Try.prog acwToSortKeyS (qwToSortKeyS _) ⟨[(0, (.d (.sl 11 (p0.map cGSortKey))))], []⟩
    delta acwToSortKeyS
    refine seq_in ?_
    refine ops_in ?_
    refine sts_ok 1 (s' := ⟨[(2, (.nil 11)), (0, (.d (.sl 11 (p0.map cGSortKey))))], []⟩) (by kernel_rfl) ?_
    refine nil_in ?_
    refine next_in ?_
    refine seq_in ?_
    refine ops_in ?_
    refine sts_ok 1 (s' := ⟨[(5, (.d (.sl 11 (p0.map cGSortKey)))), (2, (.nil 11)), (0, (.d (.sl 11 (p0.map cGSortKey))))], []⟩) (by kernel_rfl) ?_
    refine p_step (v' := (.d (.i .i64 (p0.length : Int)))) rfl rfl (vop_len (sz := 11) (l := p0) (f := cGSortKey) (by kernel_rfl) (by kernel_rfl)) ?_
    refine mks_step (k := .i64) (k' := .i64) (z := ((GSortKey.mk (GExpr.mk 0 0 false (GValue.mk 0 0 []) [] [] ([] : List GExpr) ([] : List GQuery)) false) : GSortKey)) (f := cGSortKey) (S' := fun y => ⟨[(7, (.msl 7 11 0 y.length y.length)), (6, (.d (.i .i64 (p0.length : Int)))), (5, (.d (.sl 11 (p0.map cGSortKey)))), (2, (.nil 11)), (0, (.d (.sl 11 (p0.map cGSortKey))))], [(7, rowsV (y.map cGSortKey))]⟩) h (by kernel_rfl) (by kernel_rfl) (by kernel_rfl) (by kernel_rfl) (by kernel_rfl) (fun y => by kernel_rfl) ?_
    clear h; intro y1 h
    refine sts_ok 1 (s' := ⟨[(3, (.msl 7 11 0 y1.length y1.length)), (7, (.msl 7 11 0 y1.length y1.length)), (6, (.d (.i .i64 (p0.length : Int)))), (5, (.d (.sl 11 (p0.map cGSortKey)))), (2, (.nil 11)), (0, (.d (.sl 11 (p0.map cGSortKey))))], [(7, rowsV (y1.map cGSortKey))]⟩) (by kernel_rfl) ?_
    refine nil_in ?_
    refine next_in ?_
    refine seq_in ?_
    refine seq_in ?_
    refine ops_in ?_
    refine sts_ok 1 (s' := ⟨[(4, (.d (.i .i64 0))), (3, (.msl 7 11 0 y1.length y1.length)), (7, (.msl 7 11 0 y1.length y1.length)), (6, (.d (.i .i64 (p0.length : Int)))), (5, (.d (.sl 11 (p0.map cGSortKey)))), (2, (.nil 11)), (0, (.d (.sl 11 (p0.map cGSortKey))))], [(7, rowsV (y1.map cGSortKey))]⟩) (by kernel_rfl) ?_
    refine nil_in ?_
    refine next_in ?_
    refine block_in ?_
    exact loop_go (s' := stwToSortKeyS_L0 p0 0 y1) (wk_ren [] (by kernel_rfl) (er_cons (vr_same (by kernel_rfl) (by kernel_rfl)) (er_cons (vr_same (by kernel_rfl) (by kernel_rfl)) (er_cons (vr_same (by kernel_rfl) (by kernel_rfl)) (er_nil)))) (br_rows (by kernel_rfl) (br_nil))) (OK_wToSortKeyS_L0 p0 0 y1 _ h)
  · intro F_wToSortKeyS_L0 F_wToSortKey OK_wToSortKeyS_L0 OK_wToSortKey p0 x4 b7_0 r h
    delta acwToSortKeyS_L0
    refine loop_unroll ?_
    refine seq_in ?_
    refine seq_in ?_
    refine ops_in ?_
    refine sts_ok 2 (s' := ⟨(9, (.d (.sl 11 (p0.map cGSortKey)))) :: (8, (.d (.i .i64 x4))) :: (stwToSortKeyS_L0 p0 x4 b7_0).env, (stwToSortKeyS_L0 p0 x4 b7_0).bx⟩) (by kernel_rfl) ?_
    refine p_step (v' := (.d (.i .i64 (p0.length : Int)))) rfl rfl (vop_len (sz := 11) (l := p0) (f := cGSortKey) (by kernel_rfl) (by kernel_rfl)) ?_
    refine sts_ok 1 (s' := ⟨(11, (.d (.b (decide (x4 < (p0.length : Int)))))) :: (10, (.d (.i .i64 (p0.length : Int)))) :: (9, (.d (.sl 11 (p0.map cGSortKey)))) :: (8, (.d (.i .i64 x4))) :: (stwToSortKeyS_L0 p0 x4 b7_0).env, (stwToSortKeyS_L0 p0 x4 b7_0).bx⟩) (by kernel_rfl) ?_
    refine nil_in ?_
    refine next_in ?_
    refine cond_step h (by kernel_rfl) ?_ ?_
    · clear h; intro h
      refine skip_in ?_
      refine next_in ?_
      refine seq_in ?_
      refine block_in ?_
      refine ops_in ?_
      refine sts_ok 4 (s' := ⟨(17, (.d (.i .i64 x4))) :: (16, (.d (.sl 11 (p0.map cGSortKey)))) :: (15, (.d (.i .i64 x4))) :: (14, (.msl 7 11 0 b7_0.length b7_0.length)) :: (11, (.d (.b (decide (x4 < (p0.length : Int)))))) :: (10, (.d (.i .i64 (p0.length : Int)))) :: (9, (.d (.sl 11 (p0.map cGSortKey)))) :: (8, (.d (.i .i64 x4))) :: (stwToSortKeyS_L0 p0 x4 b7_0).env, (stwToSortKeyS_L0 p0 x4 b7_0).bx⟩) (by kernel_rfl) ?_
      refine v_step (m := idx p0 x4) (v' := fun y => (.rp [(.i .i64 y.expr.kind), (.i .i64 y.expr.op), (.b y.expr.not_), (.i .i64 y.expr.value.kind), (.i .i64 y.expr.value.num), (.s (bs y.expr.value.text)), (.s (bs y.expr.qual)), (.s (bs y.expr.name)), (.sl 10 (y.expr.kids.map cGExpr)), (.sl 6 (y.expr.sub.map cGQuery)), (.b y.desc)])) h rfl rfl (fun y hy => vop_ia (l := p0) (f := cGSortKey) (g := oGSortKey) (k := .i64) hy cGSortKey_eq (by kernel_rfl) (by kernel_rfl) (by kernel_rfl)) ?_
      clear h; intro y2 h
      refine sts_ok 1 (s' := ⟨(19, (vGSortKey y2)) :: (18, (.rp [(.i .i64 y2.expr.kind), (.i .i64 y2.expr.op), (.b y2.expr.not_), (.i .i64 y2.expr.value.kind), (.i .i64 y2.expr.value.num), (.s (bs y2.expr.value.text)), (.s (bs y2.expr.qual)), (.s (bs y2.expr.name)), (.sl 10 (y2.expr.kids.map cGExpr)), (.sl 6 (y2.expr.sub.map cGQuery)), (.b y2.desc)])) :: (17, (.d (.i .i64 x4))) :: (16, (.d (.sl 11 (p0.map cGSortKey)))) :: (15, (.d (.i .i64 x4))) :: (14, (.msl 7 11 0 b7_0.length b7_0.length)) :: (11, (.d (.b (decide (x4 < (p0.length : Int)))))) :: (10, (.d (.i .i64 (p0.length : Int)))) :: (9, (.d (.sl 11 (p0.map cGSortKey)))) :: (8, (.d (.i .i64 x4))) :: (stwToSortKeyS_L0 p0 x4 b7_0).env, (stwToSortKeyS_L0 p0 x4 b7_0).bx⟩) (by kernel_rfl) ?_
      refine call_step (m := F_wToSortKey y2) (args := [(vGSortKey y2)]) (v' := (fun y => (vGSortKey y))) h (OK_wToSortKey y2) (by kernel_rfl) (by kernel_rfl) (fun _ => rfl) ?_
      clear h; intro y3 h
      refine v_step (m := idx b7_0 x4) (v' := fun y => (.ptr 7 ((0 + (x4).toNat) * 11))) h rfl rfl (fun y hy => vop_iaE (l := b7_0) (k := .i64) hy (by kernel_rfl) (by kernel_rfl) (by kernel_rfl)) ?_
      clear h; intro y4 h
      refine sti_step (b := 7) (i := x4) (l := b7_0) (v := y3) (f := cGSortKey) (u := (vGSortKey y3)) (T := fun y m => ⟨[(21, (.ptr 7 ((0 + (x4).toNat) * 11))), (20, (vGSortKey y3)), (19, (vGSortKey y2)), (18, (.rp [(.i .i64 y2.expr.kind), (.i .i64 y2.expr.op), (.b y2.expr.not_), (.i .i64 y2.expr.value.kind), (.i .i64 y2.expr.value.num), (.s (bs y2.expr.value.text)), (.s (bs y2.expr.qual)), (.s (bs y2.expr.name)), (.sl 10 (y2.expr.kids.map cGExpr)), (.sl 6 (y2.expr.sub.map cGQuery)), (.b y2.desc)])), (17, (.d (.i .i64 x4))), (16, (.d (.sl 11 (p0.map cGSortKey)))), (15, (.d (.i .i64 x4))), (14, (.msl 7 11 0 m m)), (11, (.d (.b (decide (x4 < (p0.length : Int)))))), (10, (.d (.i .i64 (p0.length : Int)))), (9, (.d (.sl 11 (p0.map cGSortKey)))), (8, (.d (.i .i64 x4))), (0, (.d (.sl 11 (p0.map cGSortKey)))), (3, (.msl 7 11 0 m m)), (4, (.d (.i .i64 x4)))], [(7, rowsV (y.map cGSortKey))]⟩) h (by kernel_rfl) (by kernel_rfl) (by kernel_rfl) (congrArg (List.map V.d) (cGSortKey_eq y3).symm) (fun y => (congrArg List.length (cGSortKey_eq y)).trans rfl) (by kernel_rfl) (fun y => by kernel_rfl) ?_
      clear h; intro y5 h
      refine nil_in ?_
      refine blockK_norm ?_
      refine next_in ?_
      refine ops_in ?_
      refine sts_ok 3 (s' := ⟨[(4, (.d (.i .i64 (IntKind.wrap .i64 (x4 + 1))))), (13, (.d (.i .i64 (IntKind.wrap .i64 (x4 + 1))))), (12, (.d (.i .i64 x4))), (21, (.ptr 7 ((0 + (x4).toNat) * 11))), (20, (vGSortKey y3)), (19, (vGSortKey y2)), (18, (.rp [(.i .i64 y2.expr.kind), (.i .i64 y2.expr.op), (.b y2.expr.not_), (.i .i64 y2.expr.value.kind), (.i .i64 y2.expr.value.num), (.s (bs y2.expr.value.text)), (.s (bs y2.expr.qual)), (.s (bs y2.expr.name)), (.sl 10 (y2.expr.kids.map cGExpr)), (.sl 6 (y2.expr.sub.map cGQuery)), (.b y2.desc)])), (17, (.d (.i .i64 x4))), (16, (.d (.sl 11 (p0.map cGSortKey)))), (15, (.d (.i .i64 x4))), (14, (.msl 7 11 0 y5.length y5.length)), (11, (.d (.b (decide (x4 < (p0.length : Int)))))), (10, (.d (.i .i64 (p0.length : Int)))), (9, (.d (.sl 11 (p0.map cGSortKey)))), (8, (.d (.i .i64 x4))), (0, (.d (.sl 11 (p0.map cGSortKey)))), (3, (.msl 7 11 0 y5.length y5.length)), (4, (.d (.i .i64 x4)))], [(7, rowsV (y5.map cGSortKey))]⟩) (by kernel_rfl) ?_
      refine nil_in ?_
      exact loop_back (s' := stwToSortKeyS_L0 p0 (IntKind.wrap .i64 (x4 + 1)) y5) (wk_ren [] (by kernel_rfl) (er_cons (vr_same (by kernel_rfl) (by kernel_rfl)) (er_cons (vr_same (by kernel_rfl) (by kernel_rfl)) (er_cons (vr_same (by kernel_rfl) (by kernel_rfl)) (er_nil)))) (br_rows (by kernel_rfl) (br_nil))) (OK_wToSortKeyS_L0 p0 (IntKind.wrap .i64 (x4 + 1)) y5 _ h)
    · clear h; intro h
      refine exit_in ?_
      refine thenK_exit ?_
      refine thenK_exit ?_
      refine blockK_here ?_
      refine next_in ?_
      refine seq_in ?_
      refine ops_in ?_
      refine sts_ok 2 (s' := ⟨(2, (.msl 7 11 0 b7_0.length b7_0.length)) :: (22, (.msl 7 11 0 b7_0.length b7_0.length)) :: (11, (.d (.b (decide (x4 < (p0.length : Int)))))) :: (10, (.d (.i .i64 (p0.length : Int)))) :: (9, (.d (.sl 11 (p0.map cGSortKey)))) :: (8, (.d (.i .i64 x4))) :: (stwToSortKeyS_L0 p0 x4 b7_0).env, (stwToSortKeyS_L0 p0 x4 b7_0).bx⟩) (by kernel_rfl) ?_
      refine nil_in ?_
      refine next_in ?_
      refine ret_frz (n := 7) (sz := 11) (l := b7_0) (f := cGSortKey) (s' := ⟨[(2, (.d (.sl 11 (b7_0.map cGSortKey))))], []⟩) (by decide) (fun y => (congrArg List.length (cGSortKey_eq y)).trans rfl) (by kernel_rfl) (⟨.inr ⟨b7_0.length, b7_0.length, by kernel_rfl, lms b7_0 _, by kernel_rfl⟩, trivial⟩) (trivial) ?_
      refine ret_in ?_
      have h := Option.some.inj h; subst h
      exact ret1_step (v := (.d (.sl 11 (b7_0.map cGSortKey)))) (by kernel_rfl) (by kernel_rfl) (by kernel_rfl)
  · intro F_wToExpr OK_wToExpr p0 r h
    refine acalls_of_fn trwToSortKey (Nat.le_of_ble_eq_true rfl) (by simp) ?_
    show avc Try.prog acwToSortKey (qwToSortKey _) ⟨[(0, (vGSortKey p0))], []⟩
    delta acwToSortKey
    refine seq_in ?_
    refine ops_in ?_
    refine sts_ok 2 (s' := ⟨[(2, (.ptr 2 0)), (1, (.ptr 1 0)), (0, (vGSortKey p0))], [(2, [(.d (.i .i64 0)), (.d (.i .i64 0)), (.d (.b false)), (.d (.i .i64 0)), (.d (.i .i64 0)), (.d (.s (bs []))), (.d (.s (bs []))), (.d (.s (bs []))), (.nil 10), (.nil 6), (.d (.b false))]), (1, [(.d (.i .i64 p0.expr.kind)), (.d (.i .i64 p0.expr.op)), (.d (.b p0.expr.not_)), (.d (.i .i64 p0.expr.value.kind)), (.d (.i .i64 p0.expr.value.num)), (.d (.s (bs p0.expr.value.text))), (.d (.s (bs p0.expr.qual))), (.d (.s (bs p0.expr.name))), (.d (.sl 10 (p0.expr.kids.map cGExpr))), (.d (.sl 6 (p0.expr.sub.map cGQuery))), (.d (.b p0.desc))])]⟩) (by kernel_rfl) ?_
    refine nil_in ?_
    refine next_in ?_
    refine seq_in ?_
    refine ops_in ?_
    refine sts_ok 1 (s' := ⟨[(3, (.ptr 3 0)), (2, (.ptr 2 0)), (1, (.ptr 1 0)), (0, (vGSortKey p0))], [(3, [(.d (.i .i64 0)), (.d (.i .i64 0)), (.d (.b false)), (.d (.i .i64 0)), (.d (.i .i64 0)), (.d (.s (bs []))), (.d (.s (bs []))), (.d (.s (bs []))), (.nil 10), (.nil 6), (.d (.b false))]), (2, [(.d (.i .i64 0)), (.d (.i .i64 0)), (.d (.b false)), (.d (.i .i64 0)), (.d (.i .i64 0)), (.d (.s (bs []))), (.d (.s (bs []))), (.d (.s (bs []))), (.nil 10), (.nil 6), (.d (.b false))]), (1, [(.d (.i .i64 p0.expr.kind)), (.d (.i .i64 p0.expr.op)), (.d (.b p0.expr.not_)), (.d (.i .i64 p0.expr.value.kind)), (.d (.i .i64 p0.expr.value.num)), (.d (.s (bs p0.expr.value.text))), (.d (.s (bs p0.expr.qual))), (.d (.s (bs p0.expr.name))), (.d (.sl 10 (p0.expr.kids.map cGExpr))), (.d (.sl 6 (p0.expr.sub.map cGQuery))), (.d (.b p0.desc))])]⟩) (by kernel_rfl) ?_
    refine nil_in ?_
    refine next_in ?_
    refine seq_in ?_
    refine ops_in ?_
    refine sts_ok 2 (s' := ⟨[(5, (vGExpr p0.expr)), (4, (.ptr 1 0)), (3, (.ptr 3 0)), (2, (.ptr 2 0)), (1, (.ptr 1 0)), (0, (vGSortKey p0))], [(3, [(.d (.i .i64 0)), (.d (.i .i64 0)), (.d (.b false)), (.d (.i .i64 0)), (.d (.i .i64 0)), (.d (.s (bs []))), (.d (.s (bs []))), (.d (.s (bs []))), (.nil 10), (.nil 6), (.d (.b false))]), (2, [(.d (.i .i64 0)), (.d (.i .i64 0)), (.d (.b false)), (.d (.i .i64 0)), (.d (.i .i64 0)), (.d (.s (bs []))), (.d (.s (bs []))), (.d (.s (bs []))), (.nil 10), (.nil 6), (.d (.b false))]), (1, [(.d (.i .i64 p0.expr.kind)), (.d (.i .i64 p0.expr.op)), (.d (.b p0.expr.not_)), (.d (.i .i64 p0.expr.value.kind)), (.d (.i .i64 p0.expr.value.num)), (.d (.s (bs p0.expr.value.text))), (.d (.s (bs p0.expr.qual))), (.d (.s (bs p0.expr.name))), (.d (.sl 10 (p0.expr.kids.map cGExpr))), (.d (.sl 6 (p0.expr.sub.map cGQuery))), (.d (.b p0.desc))])]⟩) (by kernel_rfl) ?_
    refine call_step (m := F_wToExpr p0.expr) (args := [(vGExpr p0.expr)]) (v' := (fun y => (vGExpr y))) h (OK_wToExpr p0.expr) (by kernel_rfl) (by kernel_rfl) (fun _ => rfl) ?_
    clear h; intro y1 h
    refine sts_ok 2 (s' := ⟨[(7, (.ptr 3 0)), (6, (vGExpr y1)), (5, (vGExpr p0.expr)), (4, (.ptr 1 0)), (3, (.ptr 3 0)), (2, (.ptr 2 0)), (1, (.ptr 1 0)), (0, (vGSortKey p0))], [(3, [(.d (.i .i64 y1.kind)), (.d (.i .i64 y1.op)), (.d (.b y1.not_)), (.d (.i .i64 y1.value.kind)), (.d (.i .i64 y1.value.num)), (.d (.s (bs y1.value.text))), (.d (.s (bs y1.qual))), (.d (.s (bs y1.name))), (.d (.sl 10 (y1.kids.map cGExpr))), (.d (.sl 6 (y1.sub.map cGQuery))), (.d (.b false))]), (2, [(.d (.i .i64 0)), (.d (.i .i64 0)), (.d (.b false)), (.d (.i .i64 0)), (.d (.i .i64 0)), (.d (.s (bs []))), (.d (.s (bs []))), (.d (.s (bs []))), (.nil 10), (.nil 6), (.d (.b false))]), (1, [(.d (.i .i64 p0.expr.kind)), (.d (.i .i64 p0.expr.op)), (.d (.b p0.expr.not_)), (.d (.i .i64 p0.expr.value.kind)), (.d (.i .i64 p0.expr.value.num)), (.d (.s (bs p0.expr.value.text))), (.d (.s (bs p0.expr.qual))), (.d (.s (bs p0.expr.name))), (.d (.sl 10 (p0.expr.kids.map cGExpr))), (.d (.sl 6 (p0.expr.sub.map cGQuery))), (.d (.b p0.desc))])]⟩) (by kernel_rfl) ?_
    refine nil_in ?_
    refine next_in ?_
    refine seq_in ?_
    refine ops_in ?_
    refine sts_ok 4 (s' := ⟨[(10, (.ptr 3 10)), (9, (.d (.b p0.desc))), (8, (.ptr 1 10)), (7, (.ptr 3 0)), (6, (vGExpr y1)), (5, (vGExpr p0.expr)), (4, (.ptr 1 0)), (3, (.ptr 3 0)), (2, (.ptr 2 0)), (1, (.ptr 1 0)), (0, (vGSortKey p0))], [(3, [(.d (.i .i64 y1.kind)), (.d (.i .i64 y1.op)), (.d (.b y1.not_)), (.d (.i .i64 y1.value.kind)), (.d (.i .i64 y1.value.num)), (.d (.s (bs y1.value.text))), (.d (.s (bs y1.qual))), (.d (.s (bs y1.name))), (.d (.sl 10 (y1.kids.map cGExpr))), (.d (.sl 6 (y1.sub.map cGQuery))), (.d (.b p0.desc))]), (2, [(.d (.i .i64 0)), (.d (.i .i64 0)), (.d (.b false)), (.d (.i .i64 0)), (.d (.i .i64 0)), (.d (.s (bs []))), (.d (.s (bs []))), (.d (.s (bs []))), (.nil 10), (.nil 6), (.d (.b false))]), (1, [(.d (.i .i64 p0.expr.kind)), (.d (.i .i64 p0.expr.op)), (.d (.b p0.expr.not_)), (.d (.i .i64 p0.expr.value.kind)), (.d (.i .i64 p0.expr.value.num)), (.d (.s (bs p0.expr.value.text))), (.d (.s (bs p0.expr.qual))), (.d (.s (bs p0.expr.name))), (.d (.sl 10 (p0.expr.kids.map cGExpr))), (.d (.sl 6 (p0.expr.sub.map cGQuery))), (.d (.b p0.desc))])]⟩) (by kernel_rfl) ?_
    refine nil_in ?_
    refine next_in ?_
    refine seq_in ?_
    refine ops_in ?_
    refine sts_ok 2 (s' := ⟨[(11, (vGSortKey (GSortKey.mk y1 p0.desc))), (10, (.ptr 3 10)), (9, (.d (.b p0.desc))), (8, (.ptr 1 10)), (7, (.ptr 3 0)), (6, (vGExpr y1)), (5, (vGExpr p0.expr)), (4, (.ptr 1 0)), (3, (.ptr 3 0)), (2, (.ptr 2 0)), (1, (.ptr 1 0)), (0, (vGSortKey p0))], [(3, [(.d (.i .i64 y1.kind)), (.d (.i .i64 y1.op)), (.d (.b y1.not_)), (.d (.i .i64 y1.value.kind)), (.d (.i .i64 y1.value.num)), (.d (.s (bs y1.value.text))), (.d (.s (bs y1.qual))), (.d (.s (bs y1.name))), (.d (.sl 10 (y1.kids.map cGExpr))), (.d (.sl 6 (y1.sub.map cGQuery))), (.d (.b p0.desc))]), (2, [(.d (.i .i64 y1.kind)), (.d (.i .i64 y1.op)), (.d (.b y1.not_)), (.d (.i .i64 y1.value.kind)), (.d (.i .i64 y1.value.num)), (.d (.s (bs y1.value.text))), (.d (.s (bs y1.qual))), (.d (.s (bs y1.name))), (.d (.sl 10 (y1.kids.map cGExpr))), (.d (.sl 6 (y1.sub.map cGQuery))), (.d (.b p0.desc))]), (1, [(.d (.i .i64 p0.expr.kind)), (.d (.i .i64 p0.expr.op)), (.d (.b p0.expr.not_)), (.d (.i .i64 p0.expr.value.kind)), (.d (.i .i64 p0.expr.value.num)), (.d (.s (bs p0.expr.value.text))), (.d (.s (bs p0.expr.qual))), (.d (.s (bs p0.expr.name))), (.d (.sl 10 (p0.expr.kids.map cGExpr))), (.d (.sl 6 (p0.expr.sub.map cGQuery))), (.d (.b p0.desc))])]⟩) (by kernel_rfl) ?_
    refine nil_in ?_
    refine next_in ?_
    refine ret_in ?_
    have h := Option.some.inj h; subst h
    exact ret1_step (v := (vGSortKey (GSortKey.mk y1 p0.desc))) (by kernel_rfl) (by kernel_rfl) (by kernel_rfl)
  · intro F_wToSourceS_L0 OK_wToSourceS_L0 p0 r h
    refine acalls_of_fn trwToSourceS (Nat.le_of_ble_eq_true rfl) (by simp) ?_
    show avc Try.prog acwToSourceS (qwToSourceS _) ⟨[(0, (.d (.sl 3 (p0.map cGSource))))], []⟩
    delta acwToSourceS
    refine seq_in ?_
    refine ops_in ?_
    refine sts_ok 1 (s' := ⟨[(2, (.nil 3)), (0, (.d (.sl 3 (p0.map cGSource))))], []⟩) (by kernel_rfl) ?_
    refine nil_in ?_
    refine next_in ?_
    refine seq_in ?_
    refine ops_in ?_
    refine sts_ok 1 (s' := ⟨[(5, (.d (.sl 3 (p0.map cGSource)))), (2, (.nil 3)), (0, (.d (.sl 3 (p0.map cGSource))))], []⟩) (by kernel_rfl) ?_
    refine p_step (v' := (.d (.i .i64 (p0.length : Int)))) rfl rfl (vop_len (sz := 3) (l := p0) (f := cGSource) (by kernel_rfl) (by kernel_rfl)) ?_
    refine mks_step (k := .i64) (k' := .i64) (z := ((GSource.mk [] [] ([] : List GExpr)) : GSource)) (f := cGSource) (S' := fun y => ⟨[(7, (.msl 7 3 0 y.length y.length)), (6, (.d (.i .i64 (p0.length : Int)))), (5, (.d (.sl 3 (p0.map cGSource)))), (2, (.nil 3)), (0, (.d (.sl 3 (p0.map cGSource))))], [(7, rowsV (y.map cGSource))]⟩) h (by kernel_rfl) (by kernel_rfl) (by kernel_rfl) (by kernel_rfl) (by kernel_rfl) (fun y => by kernel_rfl) ?_
    clear h; intro y1 h
    refine sts_ok 1 (s' := ⟨[(3, (.msl 7 3 0 y1.length y1.length)), (7, (.msl 7 3 0 y1.length y1.length)), (6, (.d (.i .i64 (p0.length : Int)))), (5, (.d (.sl 3 (p0.map cGSource)))), (2, (.nil 3)), (0, (.d (.sl 3 (p0.map cGSource))))], [(7, rowsV (y1.map cGSource))]⟩) (by kernel_rfl) ?_
    refine nil_in ?_
    refine next_in ?_
    refine seq_in ?_
    refine seq_in ?_
    refine ops_in ?_
    refine sts_ok 1 (s' := ⟨[(4, (.d (.i .i64 0))), (3, (.msl 7 3 0 y1.length y1.length)), (7, (.msl 7 3 0 y1.length y1.length)), (6, (.d (.i .i64 (p0.length : Int)))), (5, (.d (.sl 3 (p0.map cGSource)))), (2, (.nil 3)), (0, (.d (.sl 3 (p0.map cGSource))))], [(7, rowsV (y1.map cGSource))]⟩) (by kernel_rfl) ?_
    refine nil_in ?_
    refine next_in ?_
    refine block_in ?_
    exact loop_go (s' := stwToSourceS_L0 p0 0 y1) (wk_ren [] (by kernel_rfl) (er_cons (vr_same (by kernel_rfl) (by kernel_rfl)) (er_cons (vr_same (by kernel_rfl) (by kernel_rfl)) (er_cons (vr_same (by kernel_rfl) (by kernel_rfl)) (er_nil)))) (br_rows (by kernel_rfl) (br_nil))) (OK_wToSourceS_L0 p0 0 y1 _ h)
  · intro F_wToSource F_wToSourceS_L0 OK_wToSource OK_wToSourceS_L0 p0 x4 b7_0 r h
    delta acwToSourceS_L0
    refine loop_unroll ?_
    refine seq_in ?_
    refine seq_in ?_
    refine ops_in ?_
    refine sts_ok 2 (s' := ⟨(9, (.d (.sl 3 (p0.map cGSource)))) :: (8, (.d (.i .i64 x4))) :: (stwToSourceS_L0 p0 x4 b7_0).env, (stwToSourceS_L0 p0 x4 b7_0).bx⟩) (by kernel_rfl) ?_
    refine p_step (v' := (.d (.i .i64 (p0.length : Int)))) rfl rfl (vop_len (sz := 3) (l := p0) (f := cGSource) (by kernel_rfl) (by kernel_rfl)) ?_
    refine sts_ok 1 (s' := ⟨(11, (.d (.b (decide (x4 < (p0.length : Int)))))) :: (10, (.d (.i .i64 (p0.length : Int)))) :: (9, (.d (.sl 3 (p0.map cGSource)))) :: (8, (.d (.i .i64 x4))) :: (stwToSourceS_L0 p0 x4 b7_0).env, (stwToSourceS_L0 p0 x4 b7_0).bx⟩) (by kernel_rfl) ?_
    refine nil_in ?_
    refine next_in ?_
    refine cond_step h (by kernel_rfl) ?_ ?_
    · clear h; intro h
      refine skip_in ?_
      refine next_in ?_
      refine seq_in ?_
      refine block_in ?_
      refine ops_in ?_
      refine sts_ok 4 (s' := ⟨(17, (.d (.i .i64 x4))) :: (16, (.d (.sl 3 (p0.map cGSource)))) :: (15, (.d (.i .i64 x4))) :: (14, (.msl 7 3 0 b7_0.length b7_0.length)) :: (11, (.d (.b (decide (x4 < (p0.length : Int)))))) :: (10, (.d (.i .i64 (p0.length : Int)))) :: (9, (.d (.sl 3 (p0.map cGSource)))) :: (8, (.d (.i .i64 x4))) :: (stwToSourceS_L0 p0 x4 b7_0).env, (stwToSourceS_L0 p0 x4 b7_0).bx⟩) (by kernel_rfl) ?_
      refine v_step (m := idx p0 x4) (v' := fun y => (.rp [(.s (bs y.table)), (.s (bs y.as_)), (.sl 10 (y.on_.map cGExpr))])) h rfl rfl (fun y hy => vop_ia (l := p0) (f := cGSource) (g := oGSource) (k := .i64) hy cGSource_eq (by kernel_rfl) (by kernel_rfl) (by kernel_rfl)) ?_
      clear h; intro y2 h
      refine sts_ok 1 (s' := ⟨(19, (vGSource y2)) :: (18, (.rp [(.s (bs y2.table)), (.s (bs y2.as_)), (.sl 10 (y2.on_.map cGExpr))])) :: (17, (.d (.i .i64 x4))) :: (16, (.d (.sl 3 (p0.map cGSource)))) :: (15, (.d (.i .i64 x4))) :: (14, (.msl 7 3 0 b7_0.length b7_0.length)) :: (11, (.d (.b (decide (x4 < (p0.length : Int)))))) :: (10, (.d (.i .i64 (p0.length : Int)))) :: (9, (.d (.sl 3 (p0.map cGSource)))) :: (8, (.d (.i .i64 x4))) :: (stwToSourceS_L0 p0 x4 b7_0).env, (stwToSourceS_L0 p0 x4 b7_0).bx⟩) (by kernel_rfl) ?_
      refine call_step (m := F_wToSource y2) (args := [(vGSource y2)]) (v' := (fun y => (vGSource y))) h (OK_wToSource y2) (by kernel_rfl) (by kernel_rfl) (fun _ => rfl) ?_
      clear h; intro y3 h
      refine v_step (m := idx b7_0 x4) (v' := fun y => (.ptr 7 ((0 + (x4).toNat) * 3))) h rfl rfl (fun y hy => vop_iaE (l := b7_0) (k := .i64) hy (by kernel_rfl) (by kernel_rfl) (by kernel_rfl)) ?_
      clear h; intro y4 h
      refine sti_step (b := 7) (i := x4) (l := b7_0) (v := y3) (f := cGSource) (u := (vGSource y3)) (T := fun y m => ⟨[(21, (.ptr 7 ((0 + (x4).toNat) * 3))), (20, (vGSource y3)), (19, (vGSource y2)), (18, (.rp [(.s (bs y2.table)), (.s (bs y2.as_)), (.sl 10 (y2.on_.map cGExpr))])), (17, (.d (.i .i64 x4))), (16, (.d (.sl 3 (p0.map cGSource)))), (15, (.d (.i .i64 x4))), (14, (.msl 7 3 0 m m)), (11, (.d (.b (decide (x4 < (p0.length : Int)))))), (10, (.d (.i .i64 (p0.length : Int)))), (9, (.d (.sl 3 (p0.map cGSource)))), (8, (.d (.i .i64 x4))), (0, (.d (.sl 3 (p0.map cGSource)))), (3, (.msl 7 3 0 m m)), (4, (.d (.i .i64 x4)))], [(7, rowsV (y.map cGSource))]⟩) h (by kernel_rfl) (by kernel_rfl) (by kernel_rfl) (congrArg (List.map V.d) (cGSource_eq y3).symm) (fun y => (congrArg List.length (cGSource_eq y)).trans rfl) (by kernel_rfl) (fun y => by kernel_rfl) ?_
      clear h; intro y5 h
      refine nil_in ?_
      refine blockK_norm ?_
      refine next_in ?_
      refine ops_in ?_
      refine sts_ok 3 (s' := ⟨[(4, (.d (.i .i64 (IntKind.wrap .i64 (x4 + 1))))), (13, (.d (.i .i64 (IntKind.wrap .i64 (x4 + 1))))), (12, (.d (.i .i64 x4))), (21, (.ptr 7 ((0 + (x4).toNat) * 3))), (20, (vGSource y3)), (19, (vGSource y2)), (18, (.rp [(.s (bs y2.table)), (.s (bs y2.as_)), (.sl 10 (y2.on_.map cGExpr))])), (17, (.d (.i .i64 x4))), (16, (.d (.sl 3 (p0.map cGSource)))), (15, (.d (.i .i64 x4))), (14, (.msl 7 3 0 y5.length y5.length)), (11, (.d (.b (decide (x4 < (p0.length : Int)))))), (10, (.d (.i .i64 (p0.length : Int)))), (9, (.d (.sl 3 (p0.map cGSource)))), (8, (.d (.i .i64 x4))), (0, (.d (.sl 3 (p0.map cGSource)))), (3, (.msl 7 3 0 y5.length y5.length)), (4, (.d (.i .i64 x4)))], [(7, rowsV (y5.map cGSource))]⟩) (by kernel_rfl) ?_
      refine nil_in ?_
      exact loop_back (s' := stwToSourceS_L0 p0 (IntKind.wrap .i64 (x4 + 1)) y5) (wk_ren [] (by kernel_rfl) (er_cons (vr_same (by kernel_rfl) (by kernel_rfl)) (er_cons (vr_same (by kernel_rfl) (by kernel_rfl)) (er_cons (vr_same (by kernel_rfl) (by kernel_rfl)) (er_nil)))) (br_rows (by kernel_rfl) (br_nil))) (OK_wToSourceS_L0 p0 (IntKind.wrap .i64 (x4 + 1)) y5 _ h)
    · clear h; intro h
      refine exit_in ?_
      refine thenK_exit ?_
      refine thenK_exit ?_
      refine blockK_here ?_
      refine next_in ?_
      refine seq_in ?_
      refine ops_in ?_
      refine sts_ok 2 (s' := ⟨(2, (.msl 7 3 0 b7_0.length b7_0.length)) :: (22, (.msl 7 3 0 b7_0.length b7_0.length)) :: (11, (.d (.b (decide (x4 < (p0.length : Int)))))) :: (10, (.d (.i .i64 (p0.length : Int)))) :: (9, (.d (.sl 3 (p0.map cGSource)))) :: (8, (.d (.i .i64 x4))) :: (stwToSourceS_L0 p0 x4 b7_0).env, (stwToSourceS_L0 p0 x4 b7_0).bx⟩) (by kernel_rfl) ?_
      refine nil_in ?_
      refine next_in ?_
      refine ret_frz (n := 7) (sz := 3) (l := b7_0) (f := cGSource) (s' := ⟨[(2, (.d (.sl 3 (b7_0.map cGSource))))], []⟩) (by decide) (fun y => (congrArg List.length (cGSource_eq y)).trans rfl) (by kernel_rfl) (⟨.inr ⟨b7_0.length, b7_0.length, by kernel_rfl, lms b7_0 _, by kernel_rfl⟩, trivial⟩) (trivial) ?_
      refine ret_in ?_
      have h := Option.some.inj h; subst h
      exact ret1_step (v := (.d (.sl 3 (b7_0.map cGSource)))) (by kernel_rfl) (by kernel_rfl) (by kernel_rfl)
  · intro F_wToItemS_L0 OK_wToItemS_L0 p0 r h
    refine acalls_of_fn trwToItemS (Nat.le_of_ble_eq_true rfl) (by simp) ?_
    show avc Try.prog acwToItemS (qwToItemS _) ⟨[(0, (.d (.sl 13 (p0.map cGItem))))], []⟩
    delta acwToItemS
    refine seq_in ?_
    refine ops_in ?_
    refine sts_ok 1 (s' := ⟨[(2, (.nil 13)), (0, (.d (.sl 13 (p0.map cGItem))))], []⟩) (by kernel_rfl) ?_
    refine nil_in ?_
    refine next_in ?_
    refine seq_in ?_
    refine ops_in ?_
    refine sts_ok 1 (s' := ⟨[(5, (.d (.sl 13 (p0.map cGItem)))), (2, (.nil 13)), (0, (.d (.sl 13 (p0.map cGItem))))], []⟩) (by kernel_rfl) ?_
    refine p_step (v' := (.d (.i .i64 (p0.length : Int)))) rfl rfl (vop_len (sz := 13) (l := p0) (f := cGItem) (by kernel_rfl) (by kernel_rfl)) ?_
    refine mks_step (k := .i64) (k' := .i64) (z := ((GItem.mk false [] (GExpr.mk 0 0 false (GValue.mk 0 0 []) [] [] ([] : List GExpr) ([] : List GQuery)) []) : GItem)) (f := cGItem) (S' := fun y => ⟨[(7, (.msl 7 13 0 y.length y.length)), (6, (.d (.i .i64 (p0.length : Int)))), (5, (.d (.sl 13 (p0.map cGItem)))), (2, (.nil 13)), (0, (.d (.sl 13 (p0.map cGItem))))], [(7, rowsV (y.map cGItem))]⟩) h (by kernel_rfl) (by kernel_rfl) (by kernel_rfl) (by kernel_rfl) (by kernel_rfl) (fun y => by kernel_rfl) ?_
    clear h; intro y1 h
    refine sts_ok 1 (s' := ⟨[(3, (.msl 7 13 0 y1.length y1.length)), (7, (.msl 7 13 0 y1.length y1.length)), (6, (.d (.i .i64 (p0.length : Int)))), (5, (.d (.sl 13 (p0.map cGItem)))), (2, (.nil 13)), (0, (.d (.sl 13 (p0.map cGItem))))], [(7, rowsV (y1.map cGItem))]⟩) (by kernel_rfl) ?_
    refine nil_in ?_
    refine next_in ?_
    refine seq_in ?_
    refine seq_in ?_
    refine ops_in ?_
    refine sts_ok 1 (s' := ⟨[(4, (.d (.i .i64 0))), (3, (.msl 7 13 0 y1.length y1.length)), (7, (.msl 7 13 0 y1.length y1.length)), (6, (.d (.i .i64 (p0.length : Int)))), (5, (.d (.sl 13 (p0.map cGItem)))), (2, (.nil 13)), (0, (.d (.sl 13 (p0.map cGItem))))], [(7, rowsV (y1.map cGItem))]⟩) (by kernel_rfl) ?_
    refine nil_in ?_
    refine next_in ?_
    refine block_in ?_
    exact loop_go (s' := stwToItemS_L0 p0 0 y1) (wk_ren [] (by kernel_rfl) (er_cons (vr_same (by kernel_rfl) (by kernel_rfl)) (er_cons (vr_same (by kernel_rfl) (by kernel_rfl)) (er_cons (vr_same (by kernel_rfl) (by kernel_rfl)) (er_nil)))) (br_rows (by kernel_rfl) (br_nil))) (OK_wToItemS_L0 p0 0 y1 _ h)
  · intro F_wToItemS_L0 F_wToItem OK_wToItemS_L0 OK_wToItem p0 x4 b7_0 r h
    delta acwToItemS_L0
    refine loop_unroll ?_
    refine seq_in ?_
    refine seq_in ?_
    refine ops_in ?_
    refine sts_ok 2 (s' := ⟨(9, (.d (.sl 13 (p0.map cGItem)))) :: (8, (.d (.i .i64 x4))) :: (stwToItemS_L0 p0 x4 b7_0).env, (stwToItemS_L0 p0 x4 b7_0).bx⟩) (by kernel_rfl) ?_
    refine p_step (v' := (.d (.i .i64 (p0.length : Int)))) rfl rfl (vop_len (sz := 13) (l := p0) (f := cGItem) (by kernel_rfl) (by kernel_rfl)) ?_
    refine sts_ok 1 (s' := ⟨(11, (.d (.b (decide (x4 < (p0.length : Int)))))) :: (10, (.d (.i .i64 (p0.length : Int)))) :: (9, (.d (.sl 13 (p0.map cGItem)))) :: (8, (.d (.i .i64 x4))) :: (stwToItemS_L0 p0 x4 b7_0).env, (stwToItemS_L0 p0 x4 b7_0).bx⟩) (by kernel_rfl) ?_
    refine nil_in ?_
    refine next_in ?_
    refine cond_step h (by kernel_rfl) ?_ ?_
    · clear h; intro h
      refine skip_in ?_
      refine next_in ?_
      refine seq_in ?_
      refine block_in ?_
      refine ops_in ?_
      refine sts_ok 4 (s' := ⟨(17, (.d (.i .i64 x4))) :: (16, (.d (.sl 13 (p0.map cGItem)))) :: (15, (.d (.i .i64 x4))) :: (14, (.msl 7 13 0 b7_0.length b7_0.length)) :: (11, (.d (.b (decide (x4 < (p0.length : Int)))))) :: (10, (.d (.i .i64 (p0.length : Int)))) :: (9, (.d (.sl 13 (p0.map cGItem)))) :: (8, (.d (.i .i64 x4))) :: (stwToItemS_L0 p0 x4 b7_0).env, (stwToItemS_L0 p0 x4 b7_0).bx⟩) (by kernel_rfl) ?_
      refine v_step (m := idx p0 x4) (v' := fun y => (.rp [(.b y.star), (.s (bs y.qual)), (.i .i64 y.expr.kind), (.i .i64 y.expr.op), (.b y.expr.not_), (.i .i64 y.expr.value.kind), (.i .i64 y.expr.value.num), (.s (bs y.expr.value.text)), (.s (bs y.expr.qual)), (.s (bs y.expr.name)), (.sl 10 (y.expr.kids.map cGExpr)), (.sl 6 (y.expr.sub.map cGQuery)), (.s (bs y.as_))])) h rfl rfl (fun y hy => vop_ia (l := p0) (f := cGItem) (g := oGItem) (k := .i64) hy cGItem_eq (by kernel_rfl) (by kernel_rfl) (by kernel_rfl)) ?_
      clear h; intro y2 h
      refine sts_ok 1 (s' := ⟨(19, (vGItem y2)) :: (18, (.rp [(.b y2.star), (.s (bs y2.qual)), (.i .i64 y2.expr.kind), (.i .i64 y2.expr.op), (.b y2.expr.not_), (.i .i64 y2.expr.value.kind), (.i .i64 y2.expr.value.num), (.s (bs y2.expr.value.text)), (.s (bs y2.expr.qual)), (.s (bs y2.expr.name)), (.sl 10 (y2.expr.kids.map cGExpr)), (.sl 6 (y2.expr.sub.map cGQuery)), (.s (bs y2.as_))])) :: (17, (.d (.i .i64 x4))) :: (16, (.d (.sl 13 (p0.map cGItem)))) :: (15, (.d (.i .i64 x4))) :: (14, (.msl 7 13 0 b7_0.length b7_0.length)) :: (11, (.d (.b (decide (x4 < (p0.length : Int)))))) :: (10, (.d (.i .i64 (p0.length : Int)))) :: (9, (.d (.sl 13 (p0.map cGItem)))) :: (8, (.d (.i .i64 x4))) :: (stwToItemS_L0 p0 x4 b7_0).env, (stwToItemS_L0 p0 x4 b7_0).bx⟩) (by kernel_rfl) ?_
      refine call_step (m := F_wToItem y2) (args := [(vGItem y2)]) (v' := (fun y => (vGItem y))) h (OK_wToItem y2) (by kernel_rfl) (by kernel_rfl) (fun _ => rfl) ?_
      clear h; intro y3 h
      refine v_step (m := idx b7_0 x4) (v' := fun y => (.ptr 7 ((0 + (x4).toNat) * 13))) h rfl rfl (fun y hy => vop_iaE (l := b7_0) (k := .i64) hy (by kernel_rfl) (by kernel_rfl) (by kernel_rfl)) ?_
      clear h; intro y4 h
      refine sti_step (b := 7) (i := x4) (l := b7_0) (v := y3) (f := cGItem) (u := (vGItem y3)) (T := fun y m => ⟨[(21, (.ptr 7 ((0 + (x4).toNat) * 13))), (20, (vGItem y3)), (19, (vGItem y2)), (18, (.rp [(.b y2.star), (.s (bs y2.qual)), (.i .i64 y2.expr.kind), (.i .i64 y2.expr.op), (.b y2.expr.not_), (.i .i64 y2.expr.value.kind), (.i .i64 y2.expr.value.num), (.s (bs y2.expr.value.text)), (.s (bs y2.expr.qual)), (.s (bs y2.expr.name)), (.sl 10 (y2.expr.kids.map cGExpr)), (.sl 6 (y2.expr.sub.map cGQuery)), (.s (bs y2.as_))])), (17, (.d (.i .i64 x4))), (16, (.d (.sl 13 (p0.map cGItem)))), (15, (.d (.i .i64 x4))), (14, (.msl 7 13 0 m m)), (11, (.d (.b (decide (x4 < (p0.length : Int)))))), (10, (.d (.i .i64 (p0.length : Int)))), (9, (.d (.sl 13 (p0.map cGItem)))), (8, (.d (.i .i64 x4))), (0, (.d (.sl 13 (p0.map cGItem)))), (3, (.msl 7 13 0 m m)), (4, (.d (.i .i64 x4)))], [(7, rowsV (y.map cGItem))]⟩) h (by kernel_rfl) (by kernel_rfl) (by kernel_rfl) (congrArg (List.map V.d) (cGItem_eq y3).symm) (fun y => (congrArg List.length (cGItem_eq y)).trans rfl) (by kernel_rfl) (fun y => by kernel_rfl) ?_
      clear h; intro y5 h
      refine nil_in ?_
      refine blockK_norm ?_
      refine next_in ?_
      refine ops_in ?_
      refine sts_ok 3 (s' := ⟨[(4, (.d (.i .i64 (IntKind.wrap .i64 (x4 + 1))))), (13, (.d (.i .i64 (IntKind.wrap .i64 (x4 + 1))))), (12, (.d (.i .i64 x4))), (21, (.ptr 7 ((0 + (x4).toNat) * 13))), (20, (vGItem y3)), (19, (vGItem y2)), (18, (.rp [(.b y2.star), (.s (bs y2.qual)), (.i .i64 y2.expr.kind), (.i .i64 y2.expr.op), (.b y2.expr.not_), (.i .i64 y2.expr.value.kind), (.i .i64 y2.expr.value.num), (.s (bs y2.expr.value.text)), (.s (bs y2.expr.qual)), (.s (bs y2.expr.name)), (.sl 10 (y2.expr.kids.map cGExpr)), (.sl 6 (y2.expr.sub.map cGQuery)), (.s (bs y2.as_))])), (17, (.d (.i .i64 x4))), (16, (.d (.sl 13 (p0.map cGItem)))), (15, (.d (.i .i64 x4))), (14, (.msl 7 13 0 y5.length y5.length)), (11, (.d (.b (decide (x4 < (p0.length : Int)))))), (10, (.d (.i .i64 (p0.length : Int)))), (9, (.d (.sl 13 (p0.map cGItem)))), (8, (.d (.i .i64 x4))), (0, (.d (.sl 13 (p0.map cGItem)))), (3, (.msl 7 13 0 y5.length y5.length)), (4, (.d (.i .i64 x4)))], [(7, rowsV (y5.map cGItem))]⟩) (by kernel_rfl) ?_
      refine nil_in ?_
      exact loop_back (s' := stwToItemS_L0 p0 (IntKind.wrap .i64 (x4 + 1)) y5) (wk_ren [] (by kernel_rfl) (er_cons (vr_same (by kernel_rfl) (by kernel_rfl)) (er_cons (vr_same (by kernel_rfl) (by kernel_rfl)) (er_cons (vr_same (by kernel_rfl) (by kernel_rfl)) (er_nil)))) (br_rows (by kernel_rfl) (br_nil))) (OK_wToItemS_L0 p0 (IntKind.wrap .i64 (x4 + 1)) y5 _ h)
    · clear h; intro h
      refine exit_in ?_
      refine thenK_exit ?_
      refine thenK_exit ?_
      refine blockK_here ?_
      refine next_in ?_
      refine seq_in ?_
      refine ops_in ?_
      refine sts_ok 2 (s' := ⟨(2, (.msl 7 13 0 b7_0.length b7_0.length)) :: (22, (.msl 7 13 0 b7_0.length b7_0.length)) :: (11, (.d (.b (decide (x4 < (p0.length : Int)))))) :: (10, (.d (.i .i64 (p0.length : Int)))) :: (9, (.d (.sl 13 (p0.map cGItem)))) :: (8, (.d (.i .i64 x4))) :: (stwToItemS_L0 p0 x4 b7_0).env, (stwToItemS_L0 p0 x4 b7_0).bx⟩) (by kernel_rfl) ?_
      refine nil_in ?_
      refine next_in ?_
      refine ret_frz (n := 7) (sz := 13) (l := b7_0) (f := cGItem) (s' := ⟨[(2, (.d (.sl 13 (b7_0.map cGItem))))], []⟩) (by decide) (fun y => (congrArg List.length (cGItem_eq y)).trans rfl) (by kernel_rfl) (⟨.inr ⟨b7_0.length, b7_0.length, by kernel_rfl, lms b7_0 _, by kernel_rfl⟩, trivial⟩) (trivial) ?_
      refine ret_in ?_
      have h := Option.some.inj h; subst h
      exact ret1_step (v := (.d (.sl 13 (b7_0.map cGItem)))) (by kernel_rfl) (by kernel_rfl) (by kernel_rfl)
  · intro F_wToExpr OK_wToExpr p0 r h
    refine acalls_of_fn trwToItem (Nat.le_of_ble_eq_true rfl) (by simp) ?_
    show avc Try.prog acwToItem (qwToItem _) ⟨[(0, (vGItem p0))], []⟩
    delta acwToItem
    refine seq_in ?_
    refine ops_in ?_
    refine sts_ok 2 (s' := ⟨[(2, (.ptr 2 0)), (1, (.ptr 1 0)), (0, (vGItem p0))], [(2, [(.d (.b false)), (.d (.s (bs []))), (.d (.i .i64 0)), (.d (.i .i64 0)), (.d (.b false)), (.d (.i .i64 0)), (.d (.i .i64 0)), (.d (.s (bs []))), (.d (.s (bs []))), (.d (.s (bs []))), (.nil 10), (.nil 6), (.d (.s (bs [])))]), (1, [(.d (.b p0.star)), (.d (.s (bs p0.qual))), (.d (.i .i64 p0.expr.kind)), (.d (.i .i64 p0.expr.op)), (.d (.b p0.expr.not_)), (.d (.i .i64 p0.expr.value.kind)), (.d (.i .i64 p0.expr.value.num)), (.d (.s (bs p0.expr.value.text))), (.d (.s (bs p0.expr.qual))), (.d (.s (bs p0.expr.name))), (.d (.sl 10 (p0.expr.kids.map cGExpr))), (.d (.sl 6 (p0.expr.sub.map cGQuery))), (.d (.s (bs p0.as_)))])]⟩) (by kernel_rfl) ?_
    refine nil_in ?_
    refine next_in ?_
    refine seq_in ?_
    refine ops_in ?_
    refine sts_ok 1 (s' := ⟨[(3, (.ptr 3 0)), (2, (.ptr 2 0)), (1, (.ptr 1 0)), (0, (vGItem p0))], [(3, [(.d (.b false)), (.d (.s (bs []))), (.d (.i .i64 0)), (.d (.i .i64 0)), (.d (.b false)), (.d (.i .i64 0)), (.d (.i .i64 0)), (.d (.s (bs []))), (.d (.s (bs []))), (.d (.s (bs []))), (.nil 10), (.nil 6), (.d (.s (bs [])))]), (2, [(.d (.b false)), (.d (.s (bs []))), (.d (.i .i64 0)), (.d (.i .i64 0)), (.d (.b false)), (.d (.i .i64 0)), (.d (.i .i64 0)), (.d (.s (bs []))), (.d (.s (bs []))), (.d (.s (bs []))), (.nil 10), (.nil 6), (.d (.s (bs [])))]), (1, [(.d (.b p0.star)), (.d (.s (bs p0.qual))), (.d (.i .i64 p0.expr.kind)), (.d (.i .i64 p0.expr.op)), (.d (.b p0.expr.not_)), (.d (.i .i64 p0.expr.value.kind)), (.d (.i .i64 p0.expr.value.num)), (.d (.s (bs p0.expr.value.text))), (.d (.s (bs p0.expr.qual))), (.d (.s (bs p0.expr.name))), (.d (.sl 10 (p0.expr.kids.map cGExpr))), (.d (.sl 6 (p0.expr.sub.map cGQuery))), (.d (.s (bs p0.as_)))])]⟩) (by kernel_rfl) ?_
    refine nil_in ?_
    refine next_in ?_
    refine seq_in ?_
    refine ops_in ?_
    refine sts_ok 4 (s' := ⟨[(6, (.ptr 3 0)), (5, (.d (.b p0.star))), (4, (.ptr 1 0)), (3, (.ptr 3 0)), (2, (.ptr 2 0)), (1, (.ptr 1 0)), (0, (vGItem p0))], [(3, [(.d (.b p0.star)), (.d (.s (bs []))), (.d (.i .i64 0)), (.d (.i .i64 0)), (.d (.b false)), (.d (.i .i64 0)), (.d (.i .i64 0)), (.d (.s (bs []))), (.d (.s (bs []))), (.d (.s (bs []))), (.nil 10), (.nil 6), (.d (.s (bs [])))]), (2, [(.d (.b false)), (.d (.s (bs []))), (.d (.i .i64 0)), (.d (.i .i64 0)), (.d (.b false)), (.d (.i .i64 0)), (.d (.i .i64 0)), (.d (.s (bs []))), (.d (.s (bs []))), (.d (.s (bs []))), (.nil 10), (.nil 6), (.d (.s (bs [])))]), (1, [(.d (.b p0.star)), (.d (.s (bs p0.qual))), (.d (.i .i64 p0.expr.kind)), (.d (.i .i64 p0.expr.op)), (.d (.b p0.expr.not_)), (.d (.i .i64 p0.expr.value.kind)), (.d (.i .i64 p0.expr.value.num)), (.d (.s (bs p0.expr.value.text))), (.d (.s (bs p0.expr.qual))), (.d (.s (bs p0.expr.name))), (.d (.sl 10 (p0.expr.kids.map cGExpr))), (.d (.sl 6 (p0.expr.sub.map cGQuery))), (.d (.s (bs p0.as_)))])]⟩) (by kernel_rfl) ?_
    refine nil_in ?_
    refine next_in ?_
    refine seq_in ?_
    refine ops_in ?_
    refine sts_ok 4 (s' := ⟨[(9, (.ptr 3 1)), (8, (.d (.s (bs p0.qual)))), (7, (.ptr 1 1)), (6, (.ptr 3 0)), (5, (.d (.b p0.star))), (4, (.ptr 1 0)), (3, (.ptr 3 0)), (2, (.ptr 2 0)), (1, (.ptr 1 0)), (0, (vGItem p0))], [(3, [(.d (.b p0.star)), (.d (.s (bs p0.qual))), (.d (.i .i64 0)), (.d (.i .i64 0)), (.d (.b false)), (.d (.i .i64 0)), (.d (.i .i64 0)), (.d (.s (bs []))), (.d (.s (bs []))), (.d (.s (bs []))), (.nil 10), (.nil 6), (.d (.s (bs [])))]), (2, [(.d (.b false)), (.d (.s (bs []))), (.d (.i .i64 0)), (.d (.i .i64 0)), (.d (.b false)), (.d (.i .i64 0)), (.d (.i .i64 0)), (.d (.s (bs []))), (.d (.s (bs []))), (.d (.s (bs []))), (.nil 10), (.nil 6), (.d (.s (bs [])))]), (1, [(.d (.b p0.star)), (.d (.s (bs p0.qual))), (.d (.i .i64 p0.expr.kind)), (.d (.i .i64 p0.expr.op)), (.d (.b p0.expr.not_)), (.d (.i .i64 p0.expr.value.kind)), (.d (.i .i64 p0.expr.value.num)), (.d (.s (bs p0.expr.value.text))), (.d (.s (bs p0.expr.qual))), (.d (.s (bs p0.expr.name))), (.d (.sl 10 (p0.expr.kids.map cGExpr))), (.d (.sl 6 (p0.expr.sub.map cGQuery))), (.d (.s (bs p0.as_)))])]⟩) (by kernel_rfl) ?_
    refine nil_in ?_
    refine next_in ?_
    refine seq_in ?_
    refine ops_in ?_
    refine sts_ok 2 (s' := ⟨[(11, (vGExpr p0.expr)), (10, (.ptr 1 2)), (9, (.ptr 3 1)), (8, (.d (.s (bs p0.qual)))), (7, (.ptr 1 1)), (6, (.ptr 3 0)), (5, (.d (.b p0.star))), (4, (.ptr 1 0)), (3, (.ptr 3 0)), (2, (.ptr 2 0)), (1, (.ptr 1 0)), (0, (vGItem p0))], [(3, [(.d (.b p0.star)), (.d (.s (bs p0.qual))), (.d (.i .i64 0)), (.d (.i .i64 0)), (.d (.b false)), (.d (.i .i64 0)), (.d (.i .i64 0)), (.d (.s (bs []))), (.d (.s (bs []))), (.d (.s (bs []))), (.nil 10), (.nil 6), (.d (.s (bs [])))]), (2, [(.d (.b false)), (.d (.s (bs []))), (.d (.i .i64 0)), (.d (.i .i64 0)), (.d (.b false)), (.d (.i .i64 0)), (.d (.i .i64 0)), (.d (.s (bs []))), (.d (.s (bs []))), (.d (.s (bs []))), (.nil 10), (.nil 6), (.d (.s (bs [])))]), (1, [(.d (.b p0.star)), (.d (.s (bs p0.qual))), (.d (.i .i64 p0.expr.kind)), (.d (.i .i64 p0.expr.op)), (.d (.b p0.expr.not_)), (.d (.i .i64 p0.expr.value.kind)), (.d (.i .i64 p0.expr.value.num)), (.d (.s (bs p0.expr.value.text))), (.d (.s (bs p0.expr.qual))), (.d (.s (bs p0.expr.name))), (.d (.sl 10 (p0.expr.kids.map cGExpr))), (.d (.sl 6 (p0.expr.sub.map cGQuery))), (.d (.s (bs p0.as_)))])]⟩) (by kernel_rfl) ?_
    refine call_step (m := F_wToExpr p0.expr) (args := [(vGExpr p0.expr)]) (v' := (fun y => (vGExpr y))) h (OK_wToExpr p0.expr) (by kernel_rfl) (by kernel_rfl) (fun _ => rfl) ?_
    clear h; intro y1 h
    refine sts_ok 2 (s' := ⟨[(13, (.ptr 3 2)), (12, (vGExpr y1)), (11, (vGExpr p0.expr)), (10, (.ptr 1 2)), (9, (.ptr 3 1)), (8, (.d (.s (bs p0.qual)))), (7, (.ptr 1 1)), (6, (.ptr 3 0)), (5, (.d (.b p0.star))), (4, (.ptr 1 0)), (3, (.ptr 3 0)), (2, (.ptr 2 0)), (1, (.ptr 1 0)), (0, (vGItem p0))], [(3, [(.d (.b p0.star)), (.d (.s (bs p0.qual))), (.d (.i .i64 y1.kind)), (.d (.i .i64 y1.op)), (.d (.b y1.not_)), (.d (.i .i64 y1.value.kind)), (.d (.i .i64 y1.value.num)), (.d (.s (bs y1.value.text))), (.d (.s (bs y1.qual))), (.d (.s (bs y1.name))), (.d (.sl 10 (y1.kids.map cGExpr))), (.d (.sl 6 (y1.sub.map cGQuery))), (.d (.s (bs [])))]), (2, [(.d (.b false)), (.d (.s (bs []))), (.d (.i .i64 0)), (.d (.i .i64 0)), (.d (.b false)), (.d (.i .i64 0)), (.d (.i .i64 0)), (.d (.s (bs []))), (.d (.s (bs []))), (.d (.s (bs []))), (.nil 10), (.nil 6), (.d (.s (bs [])))]), (1, [(.d (.b p0.star)), (.d (.s (bs p0.qual))), (.d (.i .i64 p0.expr.kind)), (.d (.i .i64 p0.expr.op)), (.d (.b p0.expr.not_)), (.d (.i .i64 p0.expr.value.kind)), (.d (.i .i64 p0.expr.value.num)), (.d (.s (bs p0.expr.value.text))), (.d (.s (bs p0.expr.qual))), (.d (.s (bs p0.expr.name))), (.d (.sl 10 (p0.expr.kids.map cGExpr))), (.d (.sl 6 (p0.expr.sub.map cGQuery))), (.d (.s (bs p0.as_)))])]⟩) (by kernel_rfl) ?_
    refine nil_in ?_
    refine next_in ?_
    refine seq_in ?_
    refine ops_in ?_
    refine sts_ok 4 (s' := ⟨[(16, (.ptr 3 12)), (15, (.d (.s (bs p0.as_)))), (14, (.ptr 1 12)), (13, (.ptr 3 2)), (12, (vGExpr y1)), (11, (vGExpr p0.expr)), (10, (.ptr 1 2)), (9, (.ptr 3 1)), (8, (.d (.s (bs p0.qual)))), (7, (.ptr 1 1)), (6, (.ptr 3 0)), (5, (.d (.b p0.star))), (4, (.ptr 1 0)), (3, (.ptr 3 0)), (2, (.ptr 2 0)), (1, (.ptr 1 0)), (0, (vGItem p0))], [(3, [(.d (.b p0.star)), (.d (.s (bs p0.qual))), (.d (.i .i64 y1.kind)), (.d (.i .i64 y1.op)), (.d (.b y1.not_)), (.d (.i .i64 y1.value.kind)), (.d (.i .i64 y1.value.num)), (.d (.s (bs y1.value.text))), (.d (.s (bs y1.qual))), (.d (.s (bs y1.name))), (.d (.sl 10 (y1.kids.map cGExpr))), (.d (.sl 6 (y1.sub.map cGQuery))), (.d (.s (bs p0.as_)))]), (2, [(.d (.b false)), (.d (.s (bs []))), (.d (.i .i64 0)), (.d (.i .i64 0)), (.d (.b false)), (.d (.i .i64 0)), (.d (.i .i64 0)), (.d (.s (bs []))), (.d (.s (bs []))), (.d (.s (bs []))), (.nil 10), (.nil 6), (.d (.s (bs [])))]), (1, [(.d (.b p0.star)), (.d (.s (bs p0.qual))), (.d (.i .i64 p0.expr.kind)), (.d (.i .i64 p0.expr.op)), (.d (.b p0.expr.not_)), (.d (.i .i64 p0.expr.value.kind)), (.d (.i .i64 p0.expr.value.num)), (.d (.s (bs p0.expr.value.text))), (.d (.s (bs p0.expr.qual))), (.d (.s (bs p0.expr.name))), (.d (.sl 10 (p0.expr.kids.map cGExpr))), (.d (.sl 6 (p0.expr.sub.map cGQuery))), (.d (.s (bs p0.as_)))])]⟩) (by kernel_rfl) ?_
    refine nil_in ?_
    refine next_in ?_
    refine seq_in ?_
    refine ops_in ?_
    refine sts_ok 2 (s' := ⟨[(17, (vGItem (GItem.mk p0.star p0.qual y1 p0.as_))), (16, (.ptr 3 12)), (15, (.d (.s (bs p0.as_)))), (14, (.ptr 1 12)), (13, (.ptr 3 2)), (12, (vGExpr y1)), (11, (vGExpr p0.expr)), (10, (.ptr 1 2)), (9, (.ptr 3 1)), (8, (.d (.s (bs p0.qual)))), (7, (.ptr 1 1)), (6, (.ptr 3 0)), (5, (.d (.b p0.star))), (4, (.ptr 1 0)), (3, (.ptr 3 0)), (2, (.ptr 2 0)), (1, (.ptr 1 0)), (0, (vGItem p0))], [(3, [(.d (.b p0.star)), (.d (.s (bs p0.qual))), (.d (.i .i64 y1.kind)), (.d (.i .i64 y1.op)), (.d (.b y1.not_)), (.d (.i .i64 y1.value.kind)), (.d (.i .i64 y1.value.num)), (.d (.s (bs y1.value.text))), (.d (.s (bs y1.qual))), (.d (.s (bs y1.name))), (.d (.sl 10 (y1.kids.map cGExpr))), (.d (.sl 6 (y1.sub.map cGQuery))), (.d (.s (bs p0.as_)))]), (2, [(.d (.b p0.star)), (.d (.s (bs p0.qual))), (.d (.i .i64 y1.kind)), (.d (.i .i64 y1.op)), (.d (.b y1.not_)), (.d (.i .i64 y1.value.kind)), (.d (.i .i64 y1.value.num)), (.d (.s (bs y1.value.text))), (.d (.s (bs y1.qual))), (.d (.s (bs y1.name))), (.d (.sl 10 (y1.kids.map cGExpr))), (.d (.sl 6 (y1.sub.map cGQuery))), (.d (.s (bs p0.as_)))]), (1, [(.d (.b p0.star)), (.d (.s (bs p0.qual))), (.d (.i .i64 p0.expr.kind)), (.d (.i .i64 p0.expr.op)), (.d (.b p0.expr.not_)), (.d (.i .i64 p0.expr.value.kind)), (.d (.i .i64 p0.expr.value.num)), (.d (.s (bs p0.expr.value.text))), (.d (.s (bs p0.expr.qual))), (.d (.s (bs p0.expr.name))), (.d (.sl 10 (p0.expr.kids.map cGExpr))), (.d (.sl 6 (p0.expr.sub.map cGQuery))), (.d (.s (bs p0.as_)))])]⟩) (by kernel_rfl) ?_
    refine nil_in ?_
    refine next_in ?_
    refine ret_in ?_
    have h := Option.some.inj h; subst h
    exact ret1_step (v := (vGItem (GItem.mk p0.star p0.qual y1 p0.as_))) (by kernel_rfl) (by kernel_rfl) (by kernel_rfl)
theorem OK_wToSource (p0 : GSource) : FOk Try.prog 121 [(vGSource p0)] (fun y => (vGSource y)) (wToSource p0) := fun r h => (OKs_wToSource).1 p0 r h
theorem OK_wToExprS (p0 : (List GExpr)) : FOk Try.prog 63 [(.d (.sl 10 (p0.map cGExpr)))] (fun y => (.d (.sl 10 (y.map cGExpr)))) (wToExprS p0) := fun r h => (OKs_wToSource).2.1 p0 r h
theorem OK_wToExprS_L0 (p0 : (List GExpr)) (x4 : Int) (b7_0 : (List GExpr)) (r : (List GExpr)) (h : wToExprS_L0 p0 x4 b7_0 = some r) : avc Try.prog acwToExprS_L0 (qwToExprS_1 r) (stwToExprS_L0 p0 x4 b7_0) := (OKs_wToSource).2.2.1 p0 x4 b7_0 r h
theorem OK_wToExpr (p0 : GExpr) : FOk Try.prog 21 [(vGExpr p0)] (fun y => (vGExpr y)) (wToExpr p0) := fun r h => (OKs_wToSource).2.2.2.1 p0 r h
theorem OK_wToQueryS (p0 : (List GQuery)) : FOk Try.prog 74 [(.d (.sl 6 (p0.map cGQuery)))] (fun y => (.d (.sl 6 (y.map cGQuery)))) (wToQueryS p0) := fun r h => (OKs_wToSource).2.2.2.2.1 p0 r h
theorem OK_wToQueryS_L0 (p0 : (List GQuery)) (x4 : Int) (b7_0 : (List GQuery)) (r : (List GQuery)) (h : wToQueryS_L0 p0 x4 b7_0 = some r) : avc Try.prog acwToQueryS_L0 (qwToQueryS_1 r) (stwToQueryS_L0 p0 x4 b7_0) := (OKs_wToSource).2.2.2.2.2.1 p0 x4 b7_0 r h
theorem OK_wToQuery (p0 : GQuery) : FOk Try.prog 16 [(vGQuery p0)] (fun y => (vGQuery y)) (wToQuery p0) := fun r h => (OKs_wToSource).2.2.2.2.2.2.1 p0 r h
theorem OK_wToSortKeyS (p0 : (List GSortKey)) : FOk Try.prog 64 [(.d (.sl 11 (p0.map cGSortKey)))] (fun y => (.d (.sl 11 (y.map cGSortKey)))) (wToSortKeyS p0) := fun r h => (OKs_wToSource).2.2.2.2.2.2.2.1 p0 r h
theorem OK_wToSortKeyS_L0 (p0 : (List GSortKey)) (x4 : Int) (b7_0 : (List GSortKey)) (r : (List GSortKey)) (h : wToSortKeyS_L0 p0 x4 b7_0 = some r) : avc Try.prog acwToSortKeyS_L0 (qwToSortKeyS_1 r) (stwToSortKeyS_L0 p0 x4 b7_0) := (OKs_wToSource).2.2.2.2.2.2.2.2.1 p0 x4 b7_0 r h
theorem OK_wToSortKey (p0 : GSortKey) : FOk Try.prog 122 [(vGSortKey p0)] (fun y => (vGSortKey y)) (wToSortKey p0) := fun r h => (OKs_wToSource).2.2.2.2.2.2.2.2.2.1 p0 r h
theorem OK_wToSourceS (p0 : (List GSource)) : FOk Try.prog 62 [(.d (.sl 3 (p0.map cGSource)))] (fun y => (.d (.sl 3 (y.map cGSource)))) (wToSourceS p0) := fun r h => (OKs_wToSource).2.2.2.2.2.2.2.2.2.2.1 p0 r h
theorem OK_wToSourceS_L0 (p0 : (List GSource)) (x4 : Int) (b7_0 : (List GSource)) (r : (List GSource)) (h : wToSourceS_L0 p0 x4 b7_0 = some r) : avc Try.prog acwToSourceS_L0 (qwToSourceS_1 r) (stwToSourceS_L0 p0 x4 b7_0) := (OKs_wToSource).2.2.2.2.2.2.2.2.2.2.2.1 p0 x4 b7_0 r h
theorem OK_wToItemS (p0 : (List GItem)) : FOk Try.prog 61 [(.d (.sl 13 (p0.map cGItem)))] (fun y => (.d (.sl 13 (y.map cGItem)))) (wToItemS p0) := fun r h => (OKs_wToSource).2.2.2.2.2.2.2.2.2.2.2.2.1 p0 r h
theorem OK_wToItemS_L0 (p0 : (List GItem)) (x4 : Int) (b7_0 : (List GItem)) (r : (List GItem)) (h : wToItemS_L0 p0 x4 b7_0 = some r) : avc Try.prog acwToItemS_L0 (qwToItemS_1 r) (stwToItemS_L0 p0 x4 b7_0) := (OKs_wToSource).2.2.2.2.2.2.2.2.2.2.2.2.2.1 p0 x4 b7_0 r h
theorem OK_wToItem (p0 : GItem) : FOk Try.prog 120 [(vGItem p0)] (fun y => (vGItem y)) (wToItem p0) := fun r h => (OKs_wToSource).2.2.2.2.2.2.2.2.2.2.2.2.2.2 p0 r h
end Go.Proofs.Ytdiknmniclancaa
