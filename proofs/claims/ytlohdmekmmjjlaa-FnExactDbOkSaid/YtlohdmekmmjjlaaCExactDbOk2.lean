/- That the code computes these functions (printed by a program). -/
import Derived.Test.YtlohdmekmmjjlaaCExactDbOk1
namespace Go.Proofs.Ytlohdmekmmjjlaa
open Go Go.RowKit Go.Ab
theorem OK_wToColS (p0 : (List GCol)) : FOk Try.prog 197 [(.d (.sl 2 (p0.map cGCol)))] (fun y => (.d (.sl 2 (y.map cGCol)))) (wToColS p0) := by
  intro r h
  rw [wToColS] at h
  refine acalls_of_fn trwToColS (Nat.le_of_ble_eq_true rfl) (by simp) ?_
  show avc Try.prog acwToColS (qwToColS _) ⟨[(0, (.d (.sl 2 (p0.map cGCol))))], []⟩
  delta acwToColS
  refine seq_in ?_
  refine ops_in ?_
  refine sts_ok 1 (s' := ⟨[(2, (.nil 2)), (0, (.d (.sl 2 (p0.map cGCol))))], []⟩) (by kernel_rfl) ?_
  refine nil_in ?_
  refine next_in ?_
  refine seq_in ?_
  refine ops_in ?_
  refine sts_ok 1 (s' := ⟨[(5, (.d (.sl 2 (p0.map cGCol)))), (2, (.nil 2)), (0, (.d (.sl 2 (p0.map cGCol))))], []⟩) (by kernel_rfl) ?_
  refine p_step (v' := (.d (.i .i64 (p0.length : Int)))) rfl rfl (vop_len (sz := 2) (l := p0) (f := cGCol) (by kernel_rfl) (by kernel_rfl)) ?_
  refine mks_step (k := .i64) (k' := .i64) (z := ((GCol.mk [] 0) : GCol)) (f := cGCol) (S' := fun y => ⟨[(7, (.msl 7 2 0 y.length y.length)), (6, (.d (.i .i64 (p0.length : Int)))), (5, (.d (.sl 2 (p0.map cGCol)))), (2, (.nil 2)), (0, (.d (.sl 2 (p0.map cGCol))))], [(7, rowsV (y.map cGCol))]⟩) h (by kernel_rfl) (by kernel_rfl) (by kernel_rfl) (by kernel_rfl) (by kernel_rfl) (fun y => by kernel_rfl) ?_
  clear h; intro y1 h
  refine sts_ok 1 (s' := ⟨[(3, (.msl 7 2 0 y1.length y1.length)), (7, (.msl 7 2 0 y1.length y1.length)), (6, (.d (.i .i64 (p0.length : Int)))), (5, (.d (.sl 2 (p0.map cGCol)))), (2, (.nil 2)), (0, (.d (.sl 2 (p0.map cGCol))))], [(7, rowsV (y1.map cGCol))]⟩) (by kernel_rfl) ?_
  refine nil_in ?_
  refine next_in ?_
  refine seq_in ?_
  refine seq_in ?_
  refine ops_in ?_
  refine sts_ok 1 (s' := ⟨[(4, (.d (.i .i64 0))), (3, (.msl 7 2 0 y1.length y1.length)), (7, (.msl 7 2 0 y1.length y1.length)), (6, (.d (.i .i64 (p0.length : Int)))), (5, (.d (.sl 2 (p0.map cGCol)))), (2, (.nil 2)), (0, (.d (.sl 2 (p0.map cGCol))))], [(7, rowsV (y1.map cGCol))]⟩) (by kernel_rfl) ?_
  refine nil_in ?_
  refine next_in ?_
  refine block_in ?_
  exact loop_go (s' := stwToColS_L0 p0 0 y1) (wk_ren [] (by kernel_rfl) (er_cons (vr_same (by kernel_rfl) (by kernel_rfl)) (er_cons (vr_same (by kernel_rfl) (by kernel_rfl)) (er_cons (vr_same (by kernel_rfl) (by kernel_rfl)) (er_nil)))) (br_rows (by kernel_rfl) (br_nil))) (OK_wToColS_L0 p0 0 y1 _ h)
theorem OK_wToTable (p0 : GTable) : FOk Try.prog 159 [(vGTable p0)] (fun y => (vGTable y)) (wToTable p0) := by
  intro r h
  rw [wToTable] at h
  refine acalls_of_fn trwToTable (Nat.le_of_ble_eq_true rfl) (by simp) ?_
  show avc Try.prog acwToTable (qwToTable _) ⟨[(0, (vGTable p0))], []⟩
  delta acwToTable
  refine seq_in ?_
  refine ops_in ?_
  refine sts_ok 2 (s' := ⟨[(2, (.ptr 2 0)), (1, (.ptr 1 0)), (0, (vGTable p0))], [(2, [(.d (.s (bs []))), (.nil 2)]), (1, [(.d (.s (bs p0.name))), (.d (.sl 2 (p0.cols.map cGCol)))])]⟩) (by kernel_rfl) ?_
  refine nil_in ?_
  refine next_in ?_
  refine seq_in ?_
  refine ops_in ?_
  refine sts_ok 1 (s' := ⟨[(3, (.ptr 3 0)), (2, (.ptr 2 0)), (1, (.ptr 1 0)), (0, (vGTable p0))], [(3, [(.d (.s (bs []))), (.nil 2)]), (2, [(.d (.s (bs []))), (.nil 2)]), (1, [(.d (.s (bs p0.name))), (.d (.sl 2 (p0.cols.map cGCol)))])]⟩) (by kernel_rfl) ?_
  refine nil_in ?_
  refine next_in ?_
  refine seq_in ?_
  refine ops_in ?_
  refine sts_ok 4 (s' := ⟨[(6, (.ptr 3 0)), (5, (.d (.s (bs p0.name)))), (4, (.ptr 1 0)), (3, (.ptr 3 0)), (2, (.ptr 2 0)), (1, (.ptr 1 0)), (0, (vGTable p0))], [(3, [(.d (.s (bs p0.name))), (.nil 2)]), (2, [(.d (.s (bs []))), (.nil 2)]), (1, [(.d (.s (bs p0.name))), (.d (.sl 2 (p0.cols.map cGCol)))])]⟩) (by kernel_rfl) ?_
  refine nil_in ?_
  refine next_in ?_
  refine seq_in ?_
  refine ops_in ?_
  refine sts_ok 2 (s' := ⟨[(8, (.d (.sl 2 (p0.cols.map cGCol)))), (7, (.ptr 1 1)), (6, (.ptr 3 0)), (5, (.d (.s (bs p0.name)))), (4, (.ptr 1 0)), (3, (.ptr 3 0)), (2, (.ptr 2 0)), (1, (.ptr 1 0)), (0, (vGTable p0))], [(3, [(.d (.s (bs p0.name))), (.nil 2)]), (2, [(.d (.s (bs []))), (.nil 2)]), (1, [(.d (.s (bs p0.name))), (.d (.sl 2 (p0.cols.map cGCol)))])]⟩) (by kernel_rfl) ?_
  refine call_step (m := wToColS p0.cols) (args := [(.d (.sl 2 (p0.cols.map cGCol)))]) (v' := (fun y => (.d (.sl 2 (y.map cGCol))))) h (OK_wToColS p0.cols) (by kernel_rfl) (by kernel_rfl) (fun _ => rfl) ?_
  clear h; intro y1 h
  refine sts_ok 2 (s' := ⟨[(10, (.ptr 3 1)), (9, (.d (.sl 2 (y1.map cGCol)))), (8, (.d (.sl 2 (p0.cols.map cGCol)))), (7, (.ptr 1 1)), (6, (.ptr 3 0)), (5, (.d (.s (bs p0.name)))), (4, (.ptr 1 0)), (3, (.ptr 3 0)), (2, (.ptr 2 0)), (1, (.ptr 1 0)), (0, (vGTable p0))], [(3, [(.d (.s (bs p0.name))), (.d (.sl 2 (y1.map cGCol)))]), (2, [(.d (.s (bs []))), (.nil 2)]), (1, [(.d (.s (bs p0.name))), (.d (.sl 2 (p0.cols.map cGCol)))])]⟩) (by kernel_rfl) ?_
  refine nil_in ?_
  refine next_in ?_
  refine seq_in ?_
  refine ops_in ?_
  refine sts_ok 2 (s' := ⟨[(11, (vGTable (GTable.mk p0.name y1))), (10, (.ptr 3 1)), (9, (.d (.sl 2 (y1.map cGCol)))), (8, (.d (.sl 2 (p0.cols.map cGCol)))), (7, (.ptr 1 1)), (6, (.ptr 3 0)), (5, (.d (.s (bs p0.name)))), (4, (.ptr 1 0)), (3, (.ptr 3 0)), (2, (.ptr 2 0)), (1, (.ptr 1 0)), (0, (vGTable p0))], [(3, [(.d (.s (bs p0.name))), (.d (.sl 2 (y1.map cGCol)))]), (2, [(.d (.s (bs p0.name))), (.d (.sl 2 (y1.map cGCol)))]), (1, [(.d (.s (bs p0.name))), (.d (.sl 2 (p0.cols.map cGCol)))])]⟩) (by kernel_rfl) ?_
  refine nil_in ?_
  refine next_in ?_
  refine ret_in ?_
  have h := Option.some.inj h; subst h
  exact ret1_step (v := (vGTable (GTable.mk p0.name y1))) (by kernel_rfl) (by kernel_rfl) (by kernel_rfl)
theorem OKs_wToTableS_L0 (p0 : (List GTable)) : (∀ (x4 : Int) (b7_0 : (List GTable)) (r : (List GTable)), wToTableS_L0 p0 x4 b7_0 = some r → avc Try.prog acwToTableS_L0 (qwToTableS_1 r) (stwToTableS_L0 p0 x4 b7_0)) := by
  refine wToTableS_L0.partial_correctness p0 (fun x4 b7_0 r => avc Try.prog acwToTableS_L0 (qwToTableS_1 r) (stwToTableS_L0 p0 x4 b7_0)) ?_
  · intro F_wToTableS_L0 OK_wToTableS_L0 x4 b7_0 r h
    delta acwToTableS_L0
    refine loop_unroll ?_
    refine seq_in ?_
    refine seq_in ?_
    refine ops_in ?_
    refine sts_ok 2 (s' := ⟨(9, (.d (.sl 2 (p0.map cGTable)))) :: (8, (.d (.i .i64 x4))) :: (stwToTableS_L0 p0 x4 b7_0).env, (stwToTableS_L0 p0 x4 b7_0).bx⟩) (by kernel_rfl) ?_
    refine p_step (v' := (.d (.i .i64 (p0.length : Int)))) rfl rfl (vop_len (sz := 2) (l := p0) (f := cGTable) (by kernel_rfl) (by kernel_rfl)) ?_
    refine sts_ok 1 (s' := ⟨(11, (.d (.b (decide (x4 < (p0.length : Int)))))) :: (10, (.d (.i .i64 (p0.length : Int)))) :: (9, (.d (.sl 2 (p0.map cGTable)))) :: (8, (.d (.i .i64 x4))) :: (stwToTableS_L0 p0 x4 b7_0).env, (stwToTableS_L0 p0 x4 b7_0).bx⟩) (by kernel_rfl) ?_
    refine nil_in ?_
    refine next_in ?_
    refine cond_step h (by kernel_rfl) ?_ ?_
    · clear h; intro h
      refine skip_in ?_
      refine next_in ?_
      refine seq_in ?_
      refine block_in ?_
      refine ops_in ?_
      refine sts_ok 4 (s' := ⟨(17, (.d (.i .i64 x4))) :: (16, (.d (.sl 2 (p0.map cGTable)))) :: (15, (.d (.i .i64 x4))) :: (14, (.msl 7 2 0 b7_0.length b7_0.length)) :: (11, (.d (.b (decide (x4 < (p0.length : Int)))))) :: (10, (.d (.i .i64 (p0.length : Int)))) :: (9, (.d (.sl 2 (p0.map cGTable)))) :: (8, (.d (.i .i64 x4))) :: (stwToTableS_L0 p0 x4 b7_0).env, (stwToTableS_L0 p0 x4 b7_0).bx⟩) (by kernel_rfl) ?_
      refine v_step (m := idx p0 x4) (v' := fun y => (.rp [(.s (bs y.name)), (.sl 2 (y.cols.map cGCol))])) h rfl rfl (fun y hy => vop_ia (l := p0) (f := cGTable) (g := cGTable) (k := .i64) hy (fun _ => rfl) (by kernel_rfl) (by kernel_rfl) (by kernel_rfl)) ?_
      clear h; intro y2 h
      refine sts_ok 1 (s' := ⟨(19, (vGTable y2)) :: (18, (.rp [(.s (bs y2.name)), (.sl 2 (y2.cols.map cGCol))])) :: (17, (.d (.i .i64 x4))) :: (16, (.d (.sl 2 (p0.map cGTable)))) :: (15, (.d (.i .i64 x4))) :: (14, (.msl 7 2 0 b7_0.length b7_0.length)) :: (11, (.d (.b (decide (x4 < (p0.length : Int)))))) :: (10, (.d (.i .i64 (p0.length : Int)))) :: (9, (.d (.sl 2 (p0.map cGTable)))) :: (8, (.d (.i .i64 x4))) :: (stwToTableS_L0 p0 x4 b7_0).env, (stwToTableS_L0 p0 x4 b7_0).bx⟩) (by kernel_rfl) ?_
      refine call_step (m := wToTable y2) (args := [(vGTable y2)]) (v' := (fun y => (vGTable y))) h (OK_wToTable y2) (by kernel_rfl) (by kernel_rfl) (fun _ => rfl) ?_
      clear h; intro y3 h
      refine v_step (m := idx b7_0 x4) (v' := fun y => (.ptr 7 ((0 + (x4).toNat) * 2))) h rfl rfl (fun y hy => vop_iaE (l := b7_0) (k := .i64) hy (by kernel_rfl) (by kernel_rfl) (by kernel_rfl)) ?_
      clear h; intro y4 h
      refine sti_step (b := 7) (i := x4) (l := b7_0) (v := y3) (f := cGTable) (u := (vGTable y3)) (T := fun y m => ⟨[(21, (.ptr 7 ((0 + (x4).toNat) * 2))), (20, (vGTable y3)), (19, (vGTable y2)), (18, (.rp [(.s (bs y2.name)), (.sl 2 (y2.cols.map cGCol))])), (17, (.d (.i .i64 x4))), (16, (.d (.sl 2 (p0.map cGTable)))), (15, (.d (.i .i64 x4))), (14, (.msl 7 2 0 m m)), (11, (.d (.b (decide (x4 < (p0.length : Int)))))), (10, (.d (.i .i64 (p0.length : Int)))), (9, (.d (.sl 2 (p0.map cGTable)))), (8, (.d (.i .i64 x4))), (0, (.d (.sl 2 (p0.map cGTable)))), (3, (.msl 7 2 0 m m)), (4, (.d (.i .i64 x4)))], [(7, rowsV (y.map cGTable))]⟩) h (by kernel_rfl) (by kernel_rfl) (by kernel_rfl) (by kernel_rfl) (fun y => (congrArg List.length ((fun _ => rfl) y)).trans rfl) (by kernel_rfl) (fun y => by kernel_rfl) ?_
      clear h; intro y5 h
      refine nil_in ?_
      refine blockK_norm ?_
      refine next_in ?_
      refine ops_in ?_
      refine sts_ok 3 (s' := ⟨[(4, (.d (.i .i64 (IntKind.wrap .i64 (x4 + 1))))), (13, (.d (.i .i64 (IntKind.wrap .i64 (x4 + 1))))), (12, (.d (.i .i64 x4))), (21, (.ptr 7 ((0 + (x4).toNat) * 2))), (20, (vGTable y3)), (19, (vGTable y2)), (18, (.rp [(.s (bs y2.name)), (.sl 2 (y2.cols.map cGCol))])), (17, (.d (.i .i64 x4))), (16, (.d (.sl 2 (p0.map cGTable)))), (15, (.d (.i .i64 x4))), (14, (.msl 7 2 0 y5.length y5.length)), (11, (.d (.b (decide (x4 < (p0.length : Int)))))), (10, (.d (.i .i64 (p0.length : Int)))), (9, (.d (.sl 2 (p0.map cGTable)))), (8, (.d (.i .i64 x4))), (0, (.d (.sl 2 (p0.map cGTable)))), (3, (.msl 7 2 0 y5.length y5.length)), (4, (.d (.i .i64 x4)))], [(7, rowsV (y5.map cGTable))]⟩) (by kernel_rfl) ?_
      refine nil_in ?_
      exact loop_back (s' := stwToTableS_L0 p0 (IntKind.wrap .i64 (x4 + 1)) y5) (wk_ren [] (by kernel_rfl) (er_cons (vr_same (by kernel_rfl) (by kernel_rfl)) (er_cons (vr_same (by kernel_rfl) (by kernel_rfl)) (er_cons (vr_same (by kernel_rfl) (by kernel_rfl)) (er_nil)))) (br_rows (by kernel_rfl) (br_nil))) (OK_wToTableS_L0 (IntKind.wrap .i64 (x4 + 1)) y5 _ h)
    · clear h; intro h
      refine exit_in ?_
      refine thenK_exit ?_
      refine thenK_exit ?_
      refine blockK_here ?_
      refine next_in ?_
      refine seq_in ?_
      refine ops_in ?_
      refine sts_ok 2 (s' := ⟨(2, (.msl 7 2 0 b7_0.length b7_0.length)) :: (22, (.msl 7 2 0 b7_0.length b7_0.length)) :: (11, (.d (.b (decide (x4 < (p0.length : Int)))))) :: (10, (.d (.i .i64 (p0.length : Int)))) :: (9, (.d (.sl 2 (p0.map cGTable)))) :: (8, (.d (.i .i64 x4))) :: (stwToTableS_L0 p0 x4 b7_0).env, (stwToTableS_L0 p0 x4 b7_0).bx⟩) (by kernel_rfl) ?_
      refine nil_in ?_
      refine next_in ?_
      refine ret_frz (n := 7) (sz := 2) (l := b7_0) (f := cGTable) (s' := ⟨[(2, (.d (.sl 2 (b7_0.map cGTable))))], []⟩) (by decide) (fun y => (congrArg List.length ((fun _ => rfl) y)).trans rfl) (by kernel_rfl) (⟨.inr ⟨b7_0.length, b7_0.length, by kernel_rfl, lms b7_0 _, by kernel_rfl⟩, trivial⟩) (trivial) ?_
      refine ret_in ?_
      have h := Option.some.inj h; subst h
      exact ret1_step (v := (.d (.sl 2 (b7_0.map cGTable)))) (by kernel_rfl) (by kernel_rfl) (by kernel_rfl)
theorem OK_wToTableS_L0 (p0 : (List GTable)) (x4 : Int) (b7_0 : (List GTable)) (r : (List GTable)) (h : wToTableS_L0 p0 x4 b7_0 = some r) : avc Try.prog acwToTableS_L0 (qwToTableS_1 r) (stwToTableS_L0 p0 x4 b7_0) := (OKs_wToTableS_L0 p0) x4 b7_0 r h
theorem OK_wToTableS (p0 : (List GTable)) : FOk Try.prog 85 [(.d (.sl 2 (p0.map cGTable)))] (fun y => (.d (.sl 2 (y.map cGTable)))) (wToTableS p0) := by
  intro r h
  rw [wToTableS] at h
  refine acalls_of_fn trwToTableS (Nat.le_of_ble_eq_true rfl) (by simp) ?_
  show avc Try.prog acwToTableS (qwToTableS _) ⟨[(0, (.d (.sl 2 (p0.map cGTable))))], []⟩
  delta acwToTableS
  refine seq_in ?_
  refine ops_in ?_
  refine sts_ok 1 (s' := ⟨[(2, (.nil 2)), (0, (.d (.sl 2 (p0.map cGTable))))], []⟩) (by kernel_rfl) ?_
  refine nil_in ?_
  refine next_in ?_
  refine seq_in ?_
  refine ops_in ?_
  refine sts_ok 1 (s' := ⟨[(5, (.d (.sl 2 (p0.map cGTable)))), (2, (.nil 2)), (0, (.d (.sl 2 (p0.map cGTable))))], []⟩) (by kernel_rfl) ?_
  refine p_step (v' := (.d (.i .i64 (p0.length : Int)))) rfl rfl (vop_len (sz := 2) (l := p0) (f := cGTable) (by kernel_rfl) (by kernel_rfl)) ?_
  refine mks_step (k := .i64) (k' := .i64) (z := ((GTable.mk [] ([] : List GCol)) : GTable)) (f := cGTable) (S' := fun y => ⟨[(7, (.msl 7 2 0 y.length y.length)), (6, (.d (.i .i64 (p0.length : Int)))), (5, (.d (.sl 2 (p0.map cGTable)))), (2, (.nil 2)), (0, (.d (.sl 2 (p0.map cGTable))))], [(7, rowsV (y.map cGTable))]⟩) h (by kernel_rfl) (by kernel_rfl) (by kernel_rfl) (by kernel_rfl) (by kernel_rfl) (fun y => by kernel_rfl) ?_
  clear h; intro y1 h
  refine sts_ok 1 (s' := ⟨[(3, (.msl 7 2 0 y1.length y1.length)), (7, (.msl 7 2 0 y1.length y1.length)), (6, (.d (.i .i64 (p0.length : Int)))), (5, (.d (.sl 2 (p0.map cGTable)))), (2, (.nil 2)), (0, (.d (.sl 2 (p0.map cGTable))))], [(7, rowsV (y1.map cGTable))]⟩) (by kernel_rfl) ?_
  refine nil_in ?_
  refine next_in ?_
  refine seq_in ?_
  refine seq_in ?_
  refine ops_in ?_
  refine sts_ok 1 (s' := ⟨[(4, (.d (.i .i64 0))), (3, (.msl 7 2 0 y1.length y1.length)), (7, (.msl 7 2 0 y1.length y1.length)), (6, (.d (.i .i64 (p0.length : Int)))), (5, (.d (.sl 2 (p0.map cGTable)))), (2, (.nil 2)), (0, (.d (.sl 2 (p0.map cGTable))))], [(7, rowsV (y1.map cGTable))]⟩) (by kernel_rfl) ?_
  refine nil_in ?_
  refine next_in ?_
  refine block_in ?_
  exact loop_go (s' := stwToTableS_L0 p0 0 y1) (wk_ren [] (by kernel_rfl) (er_cons (vr_same (by kernel_rfl) (by kernel_rfl)) (er_cons (vr_same (by kernel_rfl) (by kernel_rfl)) (er_cons (vr_same (by kernel_rfl) (by kernel_rfl)) (er_nil)))) (br_rows (by kernel_rfl) (br_nil))) (OK_wToTableS_L0 p0 0 y1 _ h)
theorem OK_wToCatalog (p0 : GCatalog) : FOk Try.prog 42 [(vGCatalog p0)] (fun y => (vGCatalog y)) (wToCatalog p0) := by
  intro r h
  rw [wToCatalog] at h
  refine acalls_of_fn trwToCatalog (Nat.le_of_ble_eq_true rfl) (by simp) ?_
  show avc Try.prog acwToCatalog (qwToCatalog _) ⟨[(0, (vGCatalog p0))], []⟩
  delta acwToCatalog
  refine seq_in ?_
  refine ops_in ?_
  refine sts_ok 2 (s' := ⟨[(2, (.ptr 2 0)), (1, (.ptr 1 0)), (0, (vGCatalog p0))], [(2, [(.nil 2)]), (1, [(.d (.sl 2 (p0.tables.map cGTable)))])]⟩) (by kernel_rfl) ?_
  refine nil_in ?_
  refine next_in ?_
  refine seq_in ?_
  refine ops_in ?_
  refine sts_ok 1 (s' := ⟨[(3, (.ptr 3 0)), (2, (.ptr 2 0)), (1, (.ptr 1 0)), (0, (vGCatalog p0))], [(3, [(.nil 2)]), (2, [(.nil 2)]), (1, [(.d (.sl 2 (p0.tables.map cGTable)))])]⟩) (by kernel_rfl) ?_
  refine nil_in ?_
  refine next_in ?_
  refine seq_in ?_
  refine ops_in ?_
  refine sts_ok 2 (s' := ⟨[(5, (.d (.sl 2 (p0.tables.map cGTable)))), (4, (.ptr 1 0)), (3, (.ptr 3 0)), (2, (.ptr 2 0)), (1, (.ptr 1 0)), (0, (vGCatalog p0))], [(3, [(.nil 2)]), (2, [(.nil 2)]), (1, [(.d (.sl 2 (p0.tables.map cGTable)))])]⟩) (by kernel_rfl) ?_
  refine call_step (m := wToTableS p0.tables) (args := [(.d (.sl 2 (p0.tables.map cGTable)))]) (v' := (fun y => (.d (.sl 2 (y.map cGTable))))) h (OK_wToTableS p0.tables) (by kernel_rfl) (by kernel_rfl) (fun _ => rfl) ?_
  clear h; intro y1 h
  refine sts_ok 2 (s' := ⟨[(7, (.ptr 3 0)), (6, (.d (.sl 2 (y1.map cGTable)))), (5, (.d (.sl 2 (p0.tables.map cGTable)))), (4, (.ptr 1 0)), (3, (.ptr 3 0)), (2, (.ptr 2 0)), (1, (.ptr 1 0)), (0, (vGCatalog p0))], [(3, [(.d (.sl 2 (y1.map cGTable)))]), (2, [(.nil 2)]), (1, [(.d (.sl 2 (p0.tables.map cGTable)))])]⟩) (by kernel_rfl) ?_
  refine nil_in ?_
  refine next_in ?_
  refine seq_in ?_
  refine ops_in ?_
  refine sts_ok 2 (s' := ⟨[(8, (vGCatalog (GCatalog.mk y1))), (7, (.ptr 3 0)), (6, (.d (.sl 2 (y1.map cGTable)))), (5, (.d (.sl 2 (p0.tables.map cGTable)))), (4, (.ptr 1 0)), (3, (.ptr 3 0)), (2, (.ptr 2 0)), (1, (.ptr 1 0)), (0, (vGCatalog p0))], [(3, [(.d (.sl 2 (y1.map cGTable)))]), (2, [(.d (.sl 2 (y1.map cGTable)))]), (1, [(.d (.sl 2 (p0.tables.map cGTable)))])]⟩) (by kernel_rfl) ?_
  refine nil_in ?_
  refine next_in ?_
  refine ret_in ?_
  have h := Option.some.inj h; subst h
  exact ret1_step (v := (vGCatalog (GCatalog.mk y1))) (by kernel_rfl) (by kernel_rfl) (by kernel_rfl)
theorem OK_wToValue (p0 : GValue) : FOk Try.prog 23 [(vGValue p0)] (fun y => (vGValue y)) (wToValue p0) := by
  intro r h
  rw [wToValue] at h
  refine acalls_of_fn trwToValue (Nat.le_of_ble_eq_true rfl) (by simp) ?_
  show avc Try.prog acwToValue (qwToValue _) ⟨[(0, (vGValue p0))], []⟩
  delta acwToValue
  refine seq_in ?_
  refine ops_in ?_
  refine sts_ok 2 (s' := ⟨[(2, (.ptr 2 0)), (1, (.ptr 1 0)), (0, (vGValue p0))], [(2, [(.d (.i .i64 0)), (.d (.i .i64 0)), (.d (.s (bs [])))]), (1, [(.d (.i .i64 p0.kind)), (.d (.i .i64 p0.num)), (.d (.s (bs p0.text)))])]⟩) (by kernel_rfl) ?_
  refine nil_in ?_
  refine next_in ?_
  refine seq_in ?_
  refine ops_in ?_
  refine sts_ok 1 (s' := ⟨[(3, (.ptr 3 0)), (2, (.ptr 2 0)), (1, (.ptr 1 0)), (0, (vGValue p0))], [(3, [(.d (.i .i64 0)), (.d (.i .i64 0)), (.d (.s (bs [])))]), (2, [(.d (.i .i64 0)), (.d (.i .i64 0)), (.d (.s (bs [])))]), (1, [(.d (.i .i64 p0.kind)), (.d (.i .i64 p0.num)), (.d (.s (bs p0.text)))])]⟩) (by kernel_rfl) ?_
  refine nil_in ?_
  refine next_in ?_
  refine seq_in ?_
  refine ops_in ?_
  refine sts_ok 4 (s' := ⟨[(6, (.ptr 3 0)), (5, (.d (.i .i64 p0.kind))), (4, (.ptr 1 0)), (3, (.ptr 3 0)), (2, (.ptr 2 0)), (1, (.ptr 1 0)), (0, (vGValue p0))], [(3, [(.d (.i .i64 p0.kind)), (.d (.i .i64 0)), (.d (.s (bs [])))]), (2, [(.d (.i .i64 0)), (.d (.i .i64 0)), (.d (.s (bs [])))]), (1, [(.d (.i .i64 p0.kind)), (.d (.i .i64 p0.num)), (.d (.s (bs p0.text)))])]⟩) (by kernel_rfl) ?_
  refine nil_in ?_
  refine next_in ?_
  refine seq_in ?_
  refine ops_in ?_
  refine sts_ok 4 (s' := ⟨[(9, (.ptr 3 1)), (8, (.d (.i .i64 p0.num))), (7, (.ptr 1 1)), (6, (.ptr 3 0)), (5, (.d (.i .i64 p0.kind))), (4, (.ptr 1 0)), (3, (.ptr 3 0)), (2, (.ptr 2 0)), (1, (.ptr 1 0)), (0, (vGValue p0))], [(3, [(.d (.i .i64 p0.kind)), (.d (.i .i64 p0.num)), (.d (.s (bs [])))]), (2, [(.d (.i .i64 0)), (.d (.i .i64 0)), (.d (.s (bs [])))]), (1, [(.d (.i .i64 p0.kind)), (.d (.i .i64 p0.num)), (.d (.s (bs p0.text)))])]⟩) (by kernel_rfl) ?_
  refine nil_in ?_
  refine next_in ?_
  refine seq_in ?_
  refine ops_in ?_
  refine sts_ok 4 (s' := ⟨[(12, (.ptr 3 2)), (11, (.d (.s (bs p0.text)))), (10, (.ptr 1 2)), (9, (.ptr 3 1)), (8, (.d (.i .i64 p0.num))), (7, (.ptr 1 1)), (6, (.ptr 3 0)), (5, (.d (.i .i64 p0.kind))), (4, (.ptr 1 0)), (3, (.ptr 3 0)), (2, (.ptr 2 0)), (1, (.ptr 1 0)), (0, (vGValue p0))], [(3, [(.d (.i .i64 p0.kind)), (.d (.i .i64 p0.num)), (.d (.s (bs p0.text)))]), (2, [(.d (.i .i64 0)), (.d (.i .i64 0)), (.d (.s (bs [])))]), (1, [(.d (.i .i64 p0.kind)), (.d (.i .i64 p0.num)), (.d (.s (bs p0.text)))])]⟩) (by kernel_rfl) ?_
  refine nil_in ?_
  refine next_in ?_
  refine seq_in ?_
  refine ops_in ?_
  refine sts_ok 2 (s' := ⟨[(13, (vGValue p0)), (12, (.ptr 3 2)), (11, (.d (.s (bs p0.text)))), (10, (.ptr 1 2)), (9, (.ptr 3 1)), (8, (.d (.i .i64 p0.num))), (7, (.ptr 1 1)), (6, (.ptr 3 0)), (5, (.d (.i .i64 p0.kind))), (4, (.ptr 1 0)), (3, (.ptr 3 0)), (2, (.ptr 2 0)), (1, (.ptr 1 0)), (0, (vGValue p0))], [(3, [(.d (.i .i64 p0.kind)), (.d (.i .i64 p0.num)), (.d (.s (bs p0.text)))]), (2, [(.d (.i .i64 p0.kind)), (.d (.i .i64 p0.num)), (.d (.s (bs p0.text)))]), (1, [(.d (.i .i64 p0.kind)), (.d (.i .i64 p0.num)), (.d (.s (bs p0.text)))])]⟩) (by kernel_rfl) ?_
  refine nil_in ?_
  refine next_in ?_
  refine ret_in ?_
  have h := Option.some.inj h; subst h
  exact ret1_step (v := (vGValue p0)) (by kernel_rfl) (by kernel_rfl) (by kernel_rfl)
theorem OKs_wToValueS_L0 (p0 : (List GValue)) : (∀ (x4 : Int) (b7_0 : (List GValue)) (r : (List GValue)), wToValueS_L0 p0 x4 b7_0 = some r → avc Try.prog acwToValueS_L0 (qwToValueS_1 r) (stwToValueS_L0 p0 x4 b7_0)) := by
  refine wToValueS_L0.partial_correctness p0 (fun x4 b7_0 r => avc Try.prog acwToValueS_L0 (qwToValueS_1 r) (stwToValueS_L0 p0 x4 b7_0)) ?_
  · intro F_wToValueS_L0 OK_wToValueS_L0 x4 b7_0 r h
    delta acwToValueS_L0
    refine loop_unroll ?_
    refine seq_in ?_
    refine seq_in ?_
    refine ops_in ?_
    refine sts_ok 2 (s' := ⟨(9, (.d (.sl 3 (p0.map cGValue)))) :: (8, (.d (.i .i64 x4))) :: (stwToValueS_L0 p0 x4 b7_0).env, (stwToValueS_L0 p0 x4 b7_0).bx⟩) (by kernel_rfl) ?_
    refine p_step (v' := (.d (.i .i64 (p0.length : Int)))) rfl rfl (vop_len (sz := 3) (l := p0) (f := cGValue) (by kernel_rfl) (by kernel_rfl)) ?_
    refine sts_ok 1 (s' := ⟨(11, (.d (.b (decide (x4 < (p0.length : Int)))))) :: (10, (.d (.i .i64 (p0.length : Int)))) :: (9, (.d (.sl 3 (p0.map cGValue)))) :: (8, (.d (.i .i64 x4))) :: (stwToValueS_L0 p0 x4 b7_0).env, (stwToValueS_L0 p0 x4 b7_0).bx⟩) (by kernel_rfl) ?_
    refine nil_in ?_
    refine next_in ?_
    refine cond_step h (by kernel_rfl) ?_ ?_
    · clear h; intro h
      refine skip_in ?_
      refine next_in ?_
      refine seq_in ?_
      refine block_in ?_
      refine ops_in ?_
      refine sts_ok 4 (s' := ⟨(17, (.d (.i .i64 x4))) :: (16, (.d (.sl 3 (p0.map cGValue)))) :: (15, (.d (.i .i64 x4))) :: (14, (.msl 7 3 0 b7_0.length b7_0.length)) :: (11, (.d (.b (decide (x4 < (p0.length : Int)))))) :: (10, (.d (.i .i64 (p0.length : Int)))) :: (9, (.d (.sl 3 (p0.map cGValue)))) :: (8, (.d (.i .i64 x4))) :: (stwToValueS_L0 p0 x4 b7_0).env, (stwToValueS_L0 p0 x4 b7_0).bx⟩) (by kernel_rfl) ?_
      refine v_step (m := idx p0 x4) (v' := fun y => (.rp [(.i .i64 y.kind), (.i .i64 y.num), (.s (bs y.text))])) h rfl rfl (fun y hy => vop_ia (l := p0) (f := cGValue) (g := cGValue) (k := .i64) hy (fun _ => rfl) (by kernel_rfl) (by kernel_rfl) (by kernel_rfl)) ?_
      clear h; intro y2 h
      refine sts_ok 1 (s' := ⟨(19, (vGValue y2)) :: (18, (.rp [(.i .i64 y2.kind), (.i .i64 y2.num), (.s (bs y2.text))])) :: (17, (.d (.i .i64 x4))) :: (16, (.d (.sl 3 (p0.map cGValue)))) :: (15, (.d (.i .i64 x4))) :: (14, (.msl 7 3 0 b7_0.length b7_0.length)) :: (11, (.d (.b (decide (x4 < (p0.length : Int)))))) :: (10, (.d (.i .i64 (p0.length : Int)))) :: (9, (.d (.sl 3 (p0.map cGValue)))) :: (8, (.d (.i .i64 x4))) :: (stwToValueS_L0 p0 x4 b7_0).env, (stwToValueS_L0 p0 x4 b7_0).bx⟩) (by kernel_rfl) ?_
      refine call_step (m := wToValue y2) (args := [(vGValue y2)]) (v' := (fun y => (vGValue y))) h (OK_wToValue y2) (by kernel_rfl) (by kernel_rfl) (fun _ => rfl) ?_
      clear h; intro y3 h
      refine v_step (m := idx b7_0 x4) (v' := fun y => (.ptr 7 ((0 + (x4).toNat) * 3))) h rfl rfl (fun y hy => vop_iaE (l := b7_0) (k := .i64) hy (by kernel_rfl) (by kernel_rfl) (by kernel_rfl)) ?_
      clear h; intro y4 h
      refine sti_step (b := 7) (i := x4) (l := b7_0) (v := y3) (f := cGValue) (u := (vGValue y3)) (T := fun y m => ⟨[(21, (.ptr 7 ((0 + (x4).toNat) * 3))), (20, (vGValue y3)), (19, (vGValue y2)), (18, (.rp [(.i .i64 y2.kind), (.i .i64 y2.num), (.s (bs y2.text))])), (17, (.d (.i .i64 x4))), (16, (.d (.sl 3 (p0.map cGValue)))), (15, (.d (.i .i64 x4))), (14, (.msl 7 3 0 m m)), (11, (.d (.b (decide (x4 < (p0.length : Int)))))), (10, (.d (.i .i64 (p0.length : Int)))), (9, (.d (.sl 3 (p0.map cGValue)))), (8, (.d (.i .i64 x4))), (0, (.d (.sl 3 (p0.map cGValue)))), (3, (.msl 7 3 0 m m)), (4, (.d (.i .i64 x4)))], [(7, rowsV (y.map cGValue))]⟩) h (by kernel_rfl) (by kernel_rfl) (by kernel_rfl) (by kernel_rfl) (fun y => (congrArg List.length ((fun _ => rfl) y)).trans rfl) (by kernel_rfl) (fun y => by kernel_rfl) ?_
      clear h; intro y5 h
      refine nil_in ?_
      refine blockK_norm ?_
      refine next_in ?_
      refine ops_in ?_
      refine sts_ok 3 (s' := ⟨[(4, (.d (.i .i64 (IntKind.wrap .i64 (x4 + 1))))), (13, (.d (.i .i64 (IntKind.wrap .i64 (x4 + 1))))), (12, (.d (.i .i64 x4))), (21, (.ptr 7 ((0 + (x4).toNat) * 3))), (20, (vGValue y3)), (19, (vGValue y2)), (18, (.rp [(.i .i64 y2.kind), (.i .i64 y2.num), (.s (bs y2.text))])), (17, (.d (.i .i64 x4))), (16, (.d (.sl 3 (p0.map cGValue)))), (15, (.d (.i .i64 x4))), (14, (.msl 7 3 0 y5.length y5.length)), (11, (.d (.b (decide (x4 < (p0.length : Int)))))), (10, (.d (.i .i64 (p0.length : Int)))), (9, (.d (.sl 3 (p0.map cGValue)))), (8, (.d (.i .i64 x4))), (0, (.d (.sl 3 (p0.map cGValue)))), (3, (.msl 7 3 0 y5.length y5.length)), (4, (.d (.i .i64 x4)))], [(7, rowsV (y5.map cGValue))]⟩) (by kernel_rfl) ?_
      refine nil_in ?_
      exact loop_back (s' := stwToValueS_L0 p0 (IntKind.wrap .i64 (x4 + 1)) y5) (wk_ren [] (by kernel_rfl) (er_cons (vr_same (by kernel_rfl) (by kernel_rfl)) (er_cons (vr_same (by kernel_rfl) (by kernel_rfl)) (er_cons (vr_same (by kernel_rfl) (by kernel_rfl)) (er_nil)))) (br_rows (by kernel_rfl) (br_nil))) (OK_wToValueS_L0 (IntKind.wrap .i64 (x4 + 1)) y5 _ h)
    · clear h; intro h
      refine exit_in ?_
      refine thenK_exit ?_
      refine thenK_exit ?_
      refine blockK_here ?_
      refine next_in ?_
      refine seq_in ?_
      refine ops_in ?_
      refine sts_ok 2 (s' := ⟨(2, (.msl 7 3 0 b7_0.length b7_0.length)) :: (22, (.msl 7 3 0 b7_0.length b7_0.length)) :: (11, (.d (.b (decide (x4 < (p0.length : Int)))))) :: (10, (.d (.i .i64 (p0.length : Int)))) :: (9, (.d (.sl 3 (p0.map cGValue)))) :: (8, (.d (.i .i64 x4))) :: (stwToValueS_L0 p0 x4 b7_0).env, (stwToValueS_L0 p0 x4 b7_0).bx⟩) (by kernel_rfl) ?_
      refine nil_in ?_
      refine next_in ?_
      refine ret_frz (n := 7) (sz := 3) (l := b7_0) (f := cGValue) (s' := ⟨[(2, (.d (.sl 3 (b7_0.map cGValue))))], []⟩) (by decide) (fun y => (congrArg List.length ((fun _ => rfl) y)).trans rfl) (by kernel_rfl) (⟨.inr ⟨b7_0.length, b7_0.length, by kernel_rfl, lms b7_0 _, by kernel_rfl⟩, trivial⟩) (trivial) ?_
      refine ret_in ?_
      have h := Option.some.inj h; subst h
      exact ret1_step (v := (.d (.sl 3 (b7_0.map cGValue)))) (by kernel_rfl) (by kernel_rfl) (by kernel_rfl)
theorem OK_wToValueS_L0 (p0 : (List GValue)) (x4 : Int) (b7_0 : (List GValue)) (r : (List GValue)) (h : wToValueS_L0 p0 x4 b7_0 = some r) : avc Try.prog acwToValueS_L0 (qwToValueS_1 r) (stwToValueS_L0 p0 x4 b7_0) := (OKs_wToValueS_L0 p0) x4 b7_0 r h
theorem OK_wToValueS (p0 : (List GValue)) : FOk Try.prog 32 [(.d (.sl 3 (p0.map cGValue)))] (fun y => (.d (.sl 3 (y.map cGValue)))) (wToValueS p0) := by
  intro r h
  rw [wToValueS] at h
  refine acalls_of_fn trwToValueS (Nat.le_of_ble_eq_true rfl) (by simp) ?_
  show avc Try.prog acwToValueS (qwToValueS _) ⟨[(0, (.d (.sl 3 (p0.map cGValue))))], []⟩
  delta acwToValueS
  refine seq_in ?_
  refine ops_in ?_
  refine sts_ok 1 (s' := ⟨[(2, (.nil 3)), (0, (.d (.sl 3 (p0.map cGValue))))], []⟩) (by kernel_rfl) ?_
  refine nil_in ?_
  refine next_in ?_
  refine seq_in ?_
  refine ops_in ?_
  refine sts_ok 1 (s' := ⟨[(5, (.d (.sl 3 (p0.map cGValue)))), (2, (.nil 3)), (0, (.d (.sl 3 (p0.map cGValue))))], []⟩) (by kernel_rfl) ?_
  refine p_step (v' := (.d (.i .i64 (p0.length : Int)))) rfl rfl (vop_len (sz := 3) (l := p0) (f := cGValue) (by kernel_rfl) (by kernel_rfl)) ?_
  refine mks_step (k := .i64) (k' := .i64) (z := ((GValue.mk 0 0 []) : GValue)) (f := cGValue) (S' := fun y => ⟨[(7, (.msl 7 3 0 y.length y.length)), (6, (.d (.i .i64 (p0.length : Int)))), (5, (.d (.sl 3 (p0.map cGValue)))), (2, (.nil 3)), (0, (.d (.sl 3 (p0.map cGValue))))], [(7, rowsV (y.map cGValue))]⟩) h (by kernel_rfl) (by kernel_rfl) (by kernel_rfl) (by kernel_rfl) (by kernel_rfl) (fun y => by kernel_rfl) ?_
  clear h; intro y1 h
  refine sts_ok 1 (s' := ⟨[(3, (.msl 7 3 0 y1.length y1.length)), (7, (.msl 7 3 0 y1.length y1.length)), (6, (.d (.i .i64 (p0.length : Int)))), (5, (.d (.sl 3 (p0.map cGValue)))), (2, (.nil 3)), (0, (.d (.sl 3 (p0.map cGValue))))], [(7, rowsV (y1.map cGValue))]⟩) (by kernel_rfl) ?_
  refine nil_in ?_
  refine next_in ?_
  refine seq_in ?_
  refine seq_in ?_
  refine ops_in ?_
  refine sts_ok 1 (s' := ⟨[(4, (.d (.i .i64 0))), (3, (.msl 7 3 0 y1.length y1.length)), (7, (.msl 7 3 0 y1.length y1.length)), (6, (.d (.i .i64 (p0.length : Int)))), (5, (.d (.sl 3 (p0.map cGValue)))), (2, (.nil 3)), (0, (.d (.sl 3 (p0.map cGValue))))], [(7, rowsV (y1.map cGValue))]⟩) (by kernel_rfl) ?_
  refine nil_in ?_
  refine next_in ?_
  refine block_in ?_
  exact loop_go (s' := stwToValueS_L0 p0 0 y1) (wk_ren [] (by kernel_rfl) (er_cons (vr_same (by kernel_rfl) (by kernel_rfl)) (er_cons (vr_same (by kernel_rfl) (by kernel_rfl)) (er_cons (vr_same (by kernel_rfl) (by kernel_rfl)) (er_nil)))) (br_rows (by kernel_rfl) (br_nil))) (OK_wToValueS_L0 p0 0 y1 _ h)
theorem OKs_wToValueSS_L0 (p0 : (List (List GValue))) : (∀ (x4 : Int) (b7_0 : (List (List GValue))) (r : (List (List GValue))), wToValueSS_L0 p0 x4 b7_0 = some r → avc Try.prog acwToValueSS_L0 (qwToValueSS_1 r) (stwToValueSS_L0 p0 x4 b7_0)) := by
  refine wToValueSS_L0.partial_correctness p0 (fun x4 b7_0 r => avc Try.prog acwToValueSS_L0 (qwToValueSS_1 r) (stwToValueSS_L0 p0 x4 b7_0)) ?_
  · intro F_wToValueSS_L0 OK_wToValueSS_L0 x4 b7_0 r h
    delta acwToValueSS_L0
    refine loop_unroll ?_
    refine seq_in ?_
    refine seq_in ?_
    refine ops_in ?_
    refine sts_ok 2 (s' := ⟨(9, (.d (.sl 1 (p0.map (cSl 3 cGValue))))) :: (8, (.d (.i .i64 x4))) :: (stwToValueSS_L0 p0 x4 b7_0).env, (stwToValueSS_L0 p0 x4 b7_0).bx⟩) (by kernel_rfl) ?_
    refine p_step (v' := (.d (.i .i64 (p0.length : Int)))) rfl rfl (vop_len (sz := 1) (l := p0) (f := (cSl 3 cGValue)) (by kernel_rfl) (by kernel_rfl)) ?_
    refine sts_ok 1 (s' := ⟨(11, (.d (.b (decide (x4 < (p0.length : Int)))))) :: (10, (.d (.i .i64 (p0.length : Int)))) :: (9, (.d (.sl 1 (p0.map (cSl 3 cGValue))))) :: (8, (.d (.i .i64 x4))) :: (stwToValueSS_L0 p0 x4 b7_0).env, (stwToValueSS_L0 p0 x4 b7_0).bx⟩) (by kernel_rfl) ?_
    refine nil_in ?_
    refine next_in ?_
    refine cond_step h (by kernel_rfl) ?_ ?_
    · clear h; intro h
      refine skip_in ?_
      refine next_in ?_
      refine seq_in ?_
      refine block_in ?_
      refine ops_in ?_
      refine sts_ok 4 (s' := ⟨(17, (.d (.i .i64 x4))) :: (16, (.d (.sl 1 (p0.map (cSl 3 cGValue))))) :: (15, (.d (.i .i64 x4))) :: (14, (.msl 7 1 0 b7_0.length b7_0.length)) :: (11, (.d (.b (decide (x4 < (p0.length : Int)))))) :: (10, (.d (.i .i64 (p0.length : Int)))) :: (9, (.d (.sl 1 (p0.map (cSl 3 cGValue))))) :: (8, (.d (.i .i64 x4))) :: (stwToValueSS_L0 p0 x4 b7_0).env, (stwToValueSS_L0 p0 x4 b7_0).bx⟩) (by kernel_rfl) ?_
      refine v_step (m := idx p0 x4) (v' := fun y => (.rp [(.sl 3 (y.map cGValue))])) h rfl rfl (fun y hy => vop_ia (l := p0) (f := (cSl 3 cGValue)) (g := (cSl 3 cGValue)) (k := .i64) hy (fun _ => rfl) (by kernel_rfl) (by kernel_rfl) (by kernel_rfl)) ?_
      clear h; intro y2 h
      refine sts_ok 1 (s' := ⟨(19, (.d (.sl 3 (y2.map cGValue)))) :: (18, (.rp [(.sl 3 (y2.map cGValue))])) :: (17, (.d (.i .i64 x4))) :: (16, (.d (.sl 1 (p0.map (cSl 3 cGValue))))) :: (15, (.d (.i .i64 x4))) :: (14, (.msl 7 1 0 b7_0.length b7_0.length)) :: (11, (.d (.b (decide (x4 < (p0.length : Int)))))) :: (10, (.d (.i .i64 (p0.length : Int)))) :: (9, (.d (.sl 1 (p0.map (cSl 3 cGValue))))) :: (8, (.d (.i .i64 x4))) :: (stwToValueSS_L0 p0 x4 b7_0).env, (stwToValueSS_L0 p0 x4 b7_0).bx⟩) (by kernel_rfl) ?_
      refine call_step (m := wToValueS y2) (args := [(.d (.sl 3 (y2.map cGValue)))]) (v' := (fun y => (.d (.sl 3 (y.map cGValue))))) h (OK_wToValueS y2) (by kernel_rfl) (by kernel_rfl) (fun _ => rfl) ?_
      clear h; intro y3 h
      refine v_step (m := idx b7_0 x4) (v' := fun y => (.ptr 7 ((0 + (x4).toNat) * 1))) h rfl rfl (fun y hy => vop_iaE (l := b7_0) (k := .i64) hy (by kernel_rfl) (by kernel_rfl) (by kernel_rfl)) ?_
      clear h; intro y4 h
      refine sti_step (b := 7) (i := x4) (l := b7_0) (v := y3) (f := (cSl 3 cGValue)) (u := (.d (.sl 3 (y3.map cGValue)))) (T := fun y m => ⟨[(21, (.ptr 7 ((0 + (x4).toNat) * 1))), (20, (.d (.sl 3 (y3.map cGValue)))), (19, (.d (.sl 3 (y2.map cGValue)))), (18, (.rp [(.sl 3 (y2.map cGValue))])), (17, (.d (.i .i64 x4))), (16, (.d (.sl 1 (p0.map (cSl 3 cGValue))))), (15, (.d (.i .i64 x4))), (14, (.msl 7 1 0 m m)), (11, (.d (.b (decide (x4 < (p0.length : Int)))))), (10, (.d (.i .i64 (p0.length : Int)))), (9, (.d (.sl 1 (p0.map (cSl 3 cGValue))))), (8, (.d (.i .i64 x4))), (0, (.d (.sl 1 (p0.map (cSl 3 cGValue))))), (3, (.msl 7 1 0 m m)), (4, (.d (.i .i64 x4)))], [(7, rowsV (y.map (cSl 3 cGValue)))]⟩) h (by kernel_rfl) (by kernel_rfl) (by kernel_rfl) (by kernel_rfl) (fun y => (congrArg List.length ((fun _ => rfl) y)).trans rfl) (by kernel_rfl) (fun y => by kernel_rfl) ?_
      clear h; intro y5 h
      refine nil_in ?_
      refine blockK_norm ?_
      refine next_in ?_
      refine ops_in ?_
      refine sts_ok 3 (s' := ⟨[(4, (.d (.i .i64 (IntKind.wrap .i64 (x4 + 1))))), (13, (.d (.i .i64 (IntKind.wrap .i64 (x4 + 1))))), (12, (.d (.i .i64 x4))), (21, (.ptr 7 ((0 + (x4).toNat) * 1))), (20, (.d (.sl 3 (y3.map cGValue)))), (19, (.d (.sl 3 (y2.map cGValue)))), (18, (.rp [(.sl 3 (y2.map cGValue))])), (17, (.d (.i .i64 x4))), (16, (.d (.sl 1 (p0.map (cSl 3 cGValue))))), (15, (.d (.i .i64 x4))), (14, (.msl 7 1 0 y5.length y5.length)), (11, (.d (.b (decide (x4 < (p0.length : Int)))))), (10, (.d (.i .i64 (p0.length : Int)))), (9, (.d (.sl 1 (p0.map (cSl 3 cGValue))))), (8, (.d (.i .i64 x4))), (0, (.d (.sl 1 (p0.map (cSl 3 cGValue))))), (3, (.msl 7 1 0 y5.length y5.length)), (4, (.d (.i .i64 x4)))], [(7, rowsV (y5.map (cSl 3 cGValue)))]⟩) (by kernel_rfl) ?_
      refine nil_in ?_
      exact loop_back (s' := stwToValueSS_L0 p0 (IntKind.wrap .i64 (x4 + 1)) y5) (wk_ren [] (by kernel_rfl) (er_cons (vr_same (by kernel_rfl) (by kernel_rfl)) (er_cons (vr_same (by kernel_rfl) (by kernel_rfl)) (er_cons (vr_same (by kernel_rfl) (by kernel_rfl)) (er_nil)))) (br_rows (by kernel_rfl) (br_nil))) (OK_wToValueSS_L0 (IntKind.wrap .i64 (x4 + 1)) y5 _ h)
    · clear h; intro h
      refine exit_in ?_
      refine thenK_exit ?_
      refine thenK_exit ?_
      refine blockK_here ?_
      refine next_in ?_
      refine seq_in ?_
      refine ops_in ?_
      refine sts_ok 2 (s' := ⟨(2, (.msl 7 1 0 b7_0.length b7_0.length)) :: (22, (.msl 7 1 0 b7_0.length b7_0.length)) :: (11, (.d (.b (decide (x4 < (p0.length : Int)))))) :: (10, (.d (.i .i64 (p0.length : Int)))) :: (9, (.d (.sl 1 (p0.map (cSl 3 cGValue))))) :: (8, (.d (.i .i64 x4))) :: (stwToValueSS_L0 p0 x4 b7_0).env, (stwToValueSS_L0 p0 x4 b7_0).bx⟩) (by kernel_rfl) ?_
      refine nil_in ?_
      refine next_in ?_
      refine ret_frz (n := 7) (sz := 1) (l := b7_0) (f := (cSl 3 cGValue)) (s' := ⟨[(2, (.d (.sl 1 (b7_0.map (cSl 3 cGValue)))))], []⟩) (by decide) (fun y => (congrArg List.length ((fun _ => rfl) y)).trans rfl) (by kernel_rfl) (⟨.inr ⟨b7_0.length, b7_0.length, by kernel_rfl, lms b7_0 _, by kernel_rfl⟩, trivial⟩) (trivial) ?_
      refine ret_in ?_
      have h := Option.some.inj h; subst h
      exact ret1_step (v := (.d (.sl 1 (b7_0.map (cSl 3 cGValue))))) (by kernel_rfl) (by kernel_rfl) (by kernel_rfl)
theorem OK_wToValueSS_L0 (p0 : (List (List GValue))) (x4 : Int) (b7_0 : (List (List GValue))) (r : (List (List GValue))) (h : wToValueSS_L0 p0 x4 b7_0 = some r) : avc Try.prog acwToValueSS_L0 (qwToValueSS_1 r) (stwToValueSS_L0 p0 x4 b7_0) := (OKs_wToValueSS_L0 p0) x4 b7_0 r h
theorem OK_wToValueSS (p0 : (List (List GValue))) : FOk Try.prog 198 [(.d (.sl 1 (p0.map (cSl 3 cGValue))))] (fun y => (.d (.sl 1 (y.map (cSl 3 cGValue))))) (wToValueSS p0) := by
  intro r h
  rw [wToValueSS] at h
  refine acalls_of_fn trwToValueSS (Nat.le_of_ble_eq_true rfl) (by simp) ?_
  show avc Try.prog acwToValueSS (qwToValueSS _) ⟨[(0, (.d (.sl 1 (p0.map (cSl 3 cGValue)))))], []⟩
  delta acwToValueSS
  refine seq_in ?_
  refine ops_in ?_
  refine sts_ok 1 (s' := ⟨[(2, (.nil 1)), (0, (.d (.sl 1 (p0.map (cSl 3 cGValue)))))], []⟩) (by kernel_rfl) ?_
  refine nil_in ?_
  refine next_in ?_
  refine seq_in ?_
  refine ops_in ?_
  refine sts_ok 1 (s' := ⟨[(5, (.d (.sl 1 (p0.map (cSl 3 cGValue))))), (2, (.nil 1)), (0, (.d (.sl 1 (p0.map (cSl 3 cGValue)))))], []⟩) (by kernel_rfl) ?_
  refine p_step (v' := (.d (.i .i64 (p0.length : Int)))) rfl rfl (vop_len (sz := 1) (l := p0) (f := (cSl 3 cGValue)) (by kernel_rfl) (by kernel_rfl)) ?_
  refine mks_step (k := .i64) (k' := .i64) (z := (([] : List GValue) : (List GValue))) (f := (cSl 3 cGValue)) (S' := fun y => ⟨[(7, (.msl 7 1 0 y.length y.length)), (6, (.d (.i .i64 (p0.length : Int)))), (5, (.d (.sl 1 (p0.map (cSl 3 cGValue))))), (2, (.nil 1)), (0, (.d (.sl 1 (p0.map (cSl 3 cGValue)))))], [(7, rowsV (y.map (cSl 3 cGValue)))]⟩) h (by kernel_rfl) (by kernel_rfl) (by kernel_rfl) (by kernel_rfl) (by kernel_rfl) (fun y => by kernel_rfl) ?_
  clear h; intro y1 h
  refine sts_ok 1 (s' := ⟨[(3, (.msl 7 1 0 y1.length y1.length)), (7, (.msl 7 1 0 y1.length y1.length)), (6, (.d (.i .i64 (p0.length : Int)))), (5, (.d (.sl 1 (p0.map (cSl 3 cGValue))))), (2, (.nil 1)), (0, (.d (.sl 1 (p0.map (cSl 3 cGValue)))))], [(7, rowsV (y1.map (cSl 3 cGValue)))]⟩) (by kernel_rfl) ?_
  refine nil_in ?_
  refine next_in ?_
  refine seq_in ?_
  refine seq_in ?_
  refine ops_in ?_
  refine sts_ok 1 (s' := ⟨[(4, (.d (.i .i64 0))), (3, (.msl 7 1 0 y1.length y1.length)), (7, (.msl 7 1 0 y1.length y1.length)), (6, (.d (.i .i64 (p0.length : Int)))), (5, (.d (.sl 1 (p0.map (cSl 3 cGValue))))), (2, (.nil 1)), (0, (.d (.sl 1 (p0.map (cSl 3 cGValue)))))], [(7, rowsV (y1.map (cSl 3 cGValue)))]⟩) (by kernel_rfl) ?_
  refine nil_in ?_
  refine next_in ?_
  refine block_in ?_
  exact loop_go (s' := stwToValueSS_L0 p0 0 y1) (wk_ren [] (by kernel_rfl) (er_cons (vr_same (by kernel_rfl) (by kernel_rfl)) (er_cons (vr_same (by kernel_rfl) (by kernel_rfl)) (er_cons (vr_same (by kernel_rfl) (by kernel_rfl)) (er_nil)))) (br_rows (by kernel_rfl) (br_nil))) (OK_wToValueSS_L0 p0 0 y1 _ h)
theorem OK_wToData (p0 : GData) : FOk Try.prog 160 [(vGData p0)] (fun y => (vGData y)) (wToData p0) := by
  intro r h
  rw [wToData] at h
  refine acalls_of_fn trwToData (Nat.le_of_ble_eq_true rfl) (by simp) ?_
  show avc Try.prog acwToData (qwToData _) ⟨[(0, (vGData p0))], []⟩
  delta acwToData
  refine seq_in ?_
  refine ops_in ?_
  refine sts_ok 2 (s' := ⟨[(2, (.ptr 2 0)), (1, (.ptr 1 0)), (0, (vGData p0))], [(2, [(.nil 1)]), (1, [(.d (.sl 1 (p0.rows.map (cSl 3 cGValue))))])]⟩) (by kernel_rfl) ?_
  refine nil_in ?_
  refine next_in ?_
  refine seq_in ?_
  refine ops_in ?_
  refine sts_ok 1 (s' := ⟨[(3, (.ptr 3 0)), (2, (.ptr 2 0)), (1, (.ptr 1 0)), (0, (vGData p0))], [(3, [(.nil 1)]), (2, [(.nil 1)]), (1, [(.d (.sl 1 (p0.rows.map (cSl 3 cGValue))))])]⟩) (by kernel_rfl) ?_
  refine nil_in ?_
  refine next_in ?_
  refine seq_in ?_
  refine ops_in ?_
  refine sts_ok 2 (s' := ⟨[(5, (.d (.sl 1 (p0.rows.map (cSl 3 cGValue))))), (4, (.ptr 1 0)), (3, (.ptr 3 0)), (2, (.ptr 2 0)), (1, (.ptr 1 0)), (0, (vGData p0))], [(3, [(.nil 1)]), (2, [(.nil 1)]), (1, [(.d (.sl 1 (p0.rows.map (cSl 3 cGValue))))])]⟩) (by kernel_rfl) ?_
  refine call_step (m := wToValueSS p0.rows) (args := [(.d (.sl 1 (p0.rows.map (cSl 3 cGValue))))]) (v' := (fun y => (.d (.sl 1 (y.map (cSl 3 cGValue)))))) h (OK_wToValueSS p0.rows) (by kernel_rfl) (by kernel_rfl) (fun _ => rfl) ?_
  clear h; intro y1 h
  refine sts_ok 2 (s' := ⟨[(7, (.ptr 3 0)), (6, (.d (.sl 1 (y1.map (cSl 3 cGValue))))), (5, (.d (.sl 1 (p0.rows.map (cSl 3 cGValue))))), (4, (.ptr 1 0)), (3, (.ptr 3 0)), (2, (.ptr 2 0)), (1, (.ptr 1 0)), (0, (vGData p0))], [(3, [(.d (.sl 1 (y1.map (cSl 3 cGValue))))]), (2, [(.nil 1)]), (1, [(.d (.sl 1 (p0.rows.map (cSl 3 cGValue))))])]⟩) (by kernel_rfl) ?_
  refine nil_in ?_
  refine next_in ?_
  refine seq_in ?_
  refine ops_in ?_
  refine sts_ok 2 (s' := ⟨[(8, (vGData (GData.mk y1))), (7, (.ptr 3 0)), (6, (.d (.sl 1 (y1.map (cSl 3 cGValue))))), (5, (.d (.sl 1 (p0.rows.map (cSl 3 cGValue))))), (4, (.ptr 1 0)), (3, (.ptr 3 0)), (2, (.ptr 2 0)), (1, (.ptr 1 0)), (0, (vGData p0))], [(3, [(.d (.sl 1 (y1.map (cSl 3 cGValue))))]), (2, [(.d (.sl 1 (y1.map (cSl 3 cGValue))))]), (1, [(.d (.sl 1 (p0.rows.map (cSl 3 cGValue))))])]⟩) (by kernel_rfl) ?_
  refine nil_in ?_
  refine next_in ?_
  refine ret_in ?_
  have h := Option.some.inj h; subst h
  exact ret1_step (v := (vGData (GData.mk y1))) (by kernel_rfl) (by kernel_rfl) (by kernel_rfl)
theorem OKs_wToDataS_L0 (p0 : (List GData)) : (∀ (x4 : Int) (b7_0 : (List GData)) (r : (List GData)), wToDataS_L0 p0 x4 b7_0 = some r → avc Try.prog acwToDataS_L0 (qwToDataS_1 r) (stwToDataS_L0 p0 x4 b7_0)) := by
  refine wToDataS_L0.partial_correctness p0 (fun x4 b7_0 r => avc Try.prog acwToDataS_L0 (qwToDataS_1 r) (stwToDataS_L0 p0 x4 b7_0)) ?_
  · intro F_wToDataS_L0 OK_wToDataS_L0 x4 b7_0 r h
    delta acwToDataS_L0
    refine loop_unroll ?_
    refine seq_in ?_
    refine seq_in ?_
    refine ops_in ?_
    refine sts_ok 2 (s' := ⟨(9, (.d (.sl 1 (p0.map cGData)))) :: (8, (.d (.i .i64 x4))) :: (stwToDataS_L0 p0 x4 b7_0).env, (stwToDataS_L0 p0 x4 b7_0).bx⟩) (by kernel_rfl) ?_
    refine p_step (v' := (.d (.i .i64 (p0.length : Int)))) rfl rfl (vop_len (sz := 1) (l := p0) (f := cGData) (by kernel_rfl) (by kernel_rfl)) ?_
    refine sts_ok 1 (s' := ⟨(11, (.d (.b (decide (x4 < (p0.length : Int)))))) :: (10, (.d (.i .i64 (p0.length : Int)))) :: (9, (.d (.sl 1 (p0.map cGData)))) :: (8, (.d (.i .i64 x4))) :: (stwToDataS_L0 p0 x4 b7_0).env, (stwToDataS_L0 p0 x4 b7_0).bx⟩) (by kernel_rfl) ?_
    refine nil_in ?_
    refine next_in ?_
    refine cond_step h (by kernel_rfl) ?_ ?_
    · clear h; intro h
      refine skip_in ?_
      refine next_in ?_
      refine seq_in ?_
      refine block_in ?_
      refine ops_in ?_
      refine sts_ok 4 (s' := ⟨(17, (.d (.i .i64 x4))) :: (16, (.d (.sl 1 (p0.map cGData)))) :: (15, (.d (.i .i64 x4))) :: (14, (.msl 7 1 0 b7_0.length b7_0.length)) :: (11, (.d (.b (decide (x4 < (p0.length : Int)))))) :: (10, (.d (.i .i64 (p0.length : Int)))) :: (9, (.d (.sl 1 (p0.map cGData)))) :: (8, (.d (.i .i64 x4))) :: (stwToDataS_L0 p0 x4 b7_0).env, (stwToDataS_L0 p0 x4 b7_0).bx⟩) (by kernel_rfl) ?_
      refine v_step (m := idx p0 x4) (v' := fun y => (.rp [(.sl 1 (y.rows.map (cSl 3 cGValue)))])) h rfl rfl (fun y hy => vop_ia (l := p0) (f := cGData) (g := cGData) (k := .i64) hy (fun _ => rfl) (by kernel_rfl) (by kernel_rfl) (by kernel_rfl)) ?_
      clear h; intro y2 h
      refine sts_ok 1 (s' := ⟨(19, (vGData y2)) :: (18, (.rp [(.sl 1 (y2.rows.map (cSl 3 cGValue)))])) :: (17, (.d (.i .i64 x4))) :: (16, (.d (.sl 1 (p0.map cGData)))) :: (15, (.d (.i .i64 x4))) :: (14, (.msl 7 1 0 b7_0.length b7_0.length)) :: (11, (.d (.b (decide (x4 < (p0.length : Int)))))) :: (10, (.d (.i .i64 (p0.length : Int)))) :: (9, (.d (.sl 1 (p0.map cGData)))) :: (8, (.d (.i .i64 x4))) :: (stwToDataS_L0 p0 x4 b7_0).env, (stwToDataS_L0 p0 x4 b7_0).bx⟩) (by kernel_rfl) ?_
      refine call_step (m := wToData y2) (args := [(vGData y2)]) (v' := (fun y => (vGData y))) h (OK_wToData y2) (by kernel_rfl) (by kernel_rfl) (fun _ => rfl) ?_
      clear h; intro y3 h
      refine v_step (m := idx b7_0 x4) (v' := fun y => (.ptr 7 ((0 + (x4).toNat) * 1))) h rfl rfl (fun y hy => vop_iaE (l := b7_0) (k := .i64) hy (by kernel_rfl) (by kernel_rfl) (by kernel_rfl)) ?_
      clear h; intro y4 h
      refine sti_step (b := 7) (i := x4) (l := b7_0) (v := y3) (f := cGData) (u := (vGData y3)) (T := fun y m => ⟨[(21, (.ptr 7 ((0 + (x4).toNat) * 1))), (20, (vGData y3)), (19, (vGData y2)), (18, (.rp [(.sl 1 (y2.rows.map (cSl 3 cGValue)))])), (17, (.d (.i .i64 x4))), (16, (.d (.sl 1 (p0.map cGData)))), (15, (.d (.i .i64 x4))), (14, (.msl 7 1 0 m m)), (11, (.d (.b (decide (x4 < (p0.length : Int)))))), (10, (.d (.i .i64 (p0.length : Int)))), (9, (.d (.sl 1 (p0.map cGData)))), (8, (.d (.i .i64 x4))), (0, (.d (.sl 1 (p0.map cGData)))), (3, (.msl 7 1 0 m m)), (4, (.d (.i .i64 x4)))], [(7, rowsV (y.map cGData))]⟩) h (by kernel_rfl) (by kernel_rfl) (by kernel_rfl) (by kernel_rfl) (fun y => (congrArg List.length ((fun _ => rfl) y)).trans rfl) (by kernel_rfl) (fun y => by kernel_rfl) ?_
      clear h; intro y5 h
      refine nil_in ?_
      refine blockK_norm ?_
      refine next_in ?_
      refine ops_in ?_
      refine sts_ok 3 (s' := ⟨[(4, (.d (.i .i64 (IntKind.wrap .i64 (x4 + 1))))), (13, (.d (.i .i64 (IntKind.wrap .i64 (x4 + 1))))), (12, (.d (.i .i64 x4))), (21, (.ptr 7 ((0 + (x4).toNat) * 1))), (20, (vGData y3)), (19, (vGData y2)), (18, (.rp [(.sl 1 (y2.rows.map (cSl 3 cGValue)))])), (17, (.d (.i .i64 x4))), (16, (.d (.sl 1 (p0.map cGData)))), (15, (.d (.i .i64 x4))), (14, (.msl 7 1 0 y5.length y5.length)), (11, (.d (.b (decide (x4 < (p0.length : Int)))))), (10, (.d (.i .i64 (p0.length : Int)))), (9, (.d (.sl 1 (p0.map cGData)))), (8, (.d (.i .i64 x4))), (0, (.d (.sl 1 (p0.map cGData)))), (3, (.msl 7 1 0 y5.length y5.length)), (4, (.d (.i .i64 x4)))], [(7, rowsV (y5.map cGData))]⟩) (by kernel_rfl) ?_
      refine nil_in ?_
      exact loop_back (s' := stwToDataS_L0 p0 (IntKind.wrap .i64 (x4 + 1)) y5) (wk_ren [] (by kernel_rfl) (er_cons (vr_same (by kernel_rfl) (by kernel_rfl)) (er_cons (vr_same (by kernel_rfl) (by kernel_rfl)) (er_cons (vr_same (by kernel_rfl) (by kernel_rfl)) (er_nil)))) (br_rows (by kernel_rfl) (br_nil))) (OK_wToDataS_L0 (IntKind.wrap .i64 (x4 + 1)) y5 _ h)
    · clear h; intro h
      refine exit_in ?_
      refine thenK_exit ?_
      refine thenK_exit ?_
      refine blockK_here ?_
      refine next_in ?_
      refine seq_in ?_
      refine ops_in ?_
      refine sts_ok 2 (s' := ⟨(2, (.msl 7 1 0 b7_0.length b7_0.length)) :: (22, (.msl 7 1 0 b7_0.length b7_0.length)) :: (11, (.d (.b (decide (x4 < (p0.length : Int)))))) :: (10, (.d (.i .i64 (p0.length : Int)))) :: (9, (.d (.sl 1 (p0.map cGData)))) :: (8, (.d (.i .i64 x4))) :: (stwToDataS_L0 p0 x4 b7_0).env, (stwToDataS_L0 p0 x4 b7_0).bx⟩) (by kernel_rfl) ?_
      refine nil_in ?_
      refine next_in ?_
      refine ret_frz (n := 7) (sz := 1) (l := b7_0) (f := cGData) (s' := ⟨[(2, (.d (.sl 1 (b7_0.map cGData))))], []⟩) (by decide) (fun y => (congrArg List.length ((fun _ => rfl) y)).trans rfl) (by kernel_rfl) (⟨.inr ⟨b7_0.length, b7_0.length, by kernel_rfl, lms b7_0 _, by kernel_rfl⟩, trivial⟩) (trivial) ?_
      refine ret_in ?_
      have h := Option.some.inj h; subst h
      exact ret1_step (v := (.d (.sl 1 (b7_0.map cGData)))) (by kernel_rfl) (by kernel_rfl) (by kernel_rfl)
theorem OK_wToDataS_L0 (p0 : (List GData)) (x4 : Int) (b7_0 : (List GData)) (r : (List GData)) (h : wToDataS_L0 p0 x4 b7_0 = some r) : avc Try.prog acwToDataS_L0 (qwToDataS_1 r) (stwToDataS_L0 p0 x4 b7_0) := (OKs_wToDataS_L0 p0) x4 b7_0 r h
theorem OK_wToDataS (p0 : (List GData)) : FOk Try.prog 86 [(.d (.sl 1 (p0.map cGData)))] (fun y => (.d (.sl 1 (y.map cGData)))) (wToDataS p0) := by
  intro r h
  rw [wToDataS] at h
  refine acalls_of_fn trwToDataS (Nat.le_of_ble_eq_true rfl) (by simp) ?_
  show avc Try.prog acwToDataS (qwToDataS _) ⟨[(0, (.d (.sl 1 (p0.map cGData))))], []⟩
  delta acwToDataS
  refine seq_in ?_
  refine ops_in ?_
  refine sts_ok 1 (s' := ⟨[(2, (.nil 1)), (0, (.d (.sl 1 (p0.map cGData))))], []⟩) (by kernel_rfl) ?_
  refine nil_in ?_
  refine next_in ?_
  refine seq_in ?_
  refine ops_in ?_
  refine sts_ok 1 (s' := ⟨[(5, (.d (.sl 1 (p0.map cGData)))), (2, (.nil 1)), (0, (.d (.sl 1 (p0.map cGData))))], []⟩) (by kernel_rfl) ?_
  refine p_step (v' := (.d (.i .i64 (p0.length : Int)))) rfl rfl (vop_len (sz := 1) (l := p0) (f := cGData) (by kernel_rfl) (by kernel_rfl)) ?_
  refine mks_step (k := .i64) (k' := .i64) (z := ((GData.mk ([] : List (List GValue))) : GData)) (f := cGData) (S' := fun y => ⟨[(7, (.msl 7 1 0 y.length y.length)), (6, (.d (.i .i64 (p0.length : Int)))), (5, (.d (.sl 1 (p0.map cGData)))), (2, (.nil 1)), (0, (.d (.sl 1 (p0.map cGData))))], [(7, rowsV (y.map cGData))]⟩) h (by kernel_rfl) (by kernel_rfl) (by kernel_rfl) (by kernel_rfl) (by kernel_rfl) (fun y => by kernel_rfl) ?_
  clear h; intro y1 h
  refine sts_ok 1 (s' := ⟨[(3, (.msl 7 1 0 y1.length y1.length)), (7, (.msl 7 1 0 y1.length y1.length)), (6, (.d (.i .i64 (p0.length : Int)))), (5, (.d (.sl 1 (p0.map cGData)))), (2, (.nil 1)), (0, (.d (.sl 1 (p0.map cGData))))], [(7, rowsV (y1.map cGData))]⟩) (by kernel_rfl) ?_
  refine nil_in ?_
  refine next_in ?_
  refine seq_in ?_
  refine seq_in ?_
  refine ops_in ?_
  refine sts_ok 1 (s' := ⟨[(4, (.d (.i .i64 0))), (3, (.msl 7 1 0 y1.length y1.length)), (7, (.msl 7 1 0 y1.length y1.length)), (6, (.d (.i .i64 (p0.length : Int)))), (5, (.d (.sl 1 (p0.map cGData)))), (2, (.nil 1)), (0, (.d (.sl 1 (p0.map cGData))))], [(7, rowsV (y1.map cGData))]⟩) (by kernel_rfl) ?_
  refine nil_in ?_
  refine next_in ?_
  refine block_in ?_
  exact loop_go (s' := stwToDataS_L0 p0 0 y1) (wk_ren [] (by kernel_rfl) (er_cons (vr_same (by kernel_rfl) (by kernel_rfl)) (er_cons (vr_same (by kernel_rfl) (by kernel_rfl)) (er_cons (vr_same (by kernel_rfl) (by kernel_rfl)) (er_nil)))) (br_rows (by kernel_rfl) (br_nil))) (OK_wToDataS_L0 p0 0 y1 _ h)
theorem OK_wToDb (p0 : GDb) : FOk Try.prog 43 [(vGDb p0)] (fun y => (vGDb y)) (wToDb p0) := by
  intro r h
  rw [wToDb] at h
  refine acalls_of_fn trwToDb (Nat.le_of_ble_eq_true rfl) (by simp) ?_
  show avc Try.prog acwToDb (qwToDb _) ⟨[(0, (vGDb p0))], []⟩
  delta acwToDb
  refine seq_in ?_
  refine ops_in ?_
  refine sts_ok 2 (s' := ⟨[(2, (.ptr 2 0)), (1, (.ptr 1 0)), (0, (vGDb p0))], [(2, [(.nil 1)]), (1, [(.d (.sl 1 (p0.tables.map cGData)))])]⟩) (by kernel_rfl) ?_
  refine nil_in ?_
  refine next_in ?_
  refine seq_in ?_
  refine ops_in ?_
  refine sts_ok 1 (s' := ⟨[(3, (.ptr 3 0)), (2, (.ptr 2 0)), (1, (.ptr 1 0)), (0, (vGDb p0))], [(3, [(.nil 1)]), (2, [(.nil 1)]), (1, [(.d (.sl 1 (p0.tables.map cGData)))])]⟩) (by kernel_rfl) ?_
  refine nil_in ?_
  refine next_in ?_
  refine seq_in ?_
  refine ops_in ?_
  refine sts_ok 2 (s' := ⟨[(5, (.d (.sl 1 (p0.tables.map cGData)))), (4, (.ptr 1 0)), (3, (.ptr 3 0)), (2, (.ptr 2 0)), (1, (.ptr 1 0)), (0, (vGDb p0))], [(3, [(.nil 1)]), (2, [(.nil 1)]), (1, [(.d (.sl 1 (p0.tables.map cGData)))])]⟩) (by kernel_rfl) ?_
  refine call_step (m := wToDataS p0.tables) (args := [(.d (.sl 1 (p0.tables.map cGData)))]) (v' := (fun y => (.d (.sl 1 (y.map cGData))))) h (OK_wToDataS p0.tables) (by kernel_rfl) (by kernel_rfl) (fun _ => rfl) ?_
  clear h; intro y1 h
  refine sts_ok 2 (s' := ⟨[(7, (.ptr 3 0)), (6, (.d (.sl 1 (y1.map cGData)))), (5, (.d (.sl 1 (p0.tables.map cGData)))), (4, (.ptr 1 0)), (3, (.ptr 3 0)), (2, (.ptr 2 0)), (1, (.ptr 1 0)), (0, (vGDb p0))], [(3, [(.d (.sl 1 (y1.map cGData)))]), (2, [(.nil 1)]), (1, [(.d (.sl 1 (p0.tables.map cGData)))])]⟩) (by kernel_rfl) ?_
  refine nil_in ?_
  refine next_in ?_
  refine seq_in ?_
  refine ops_in ?_
  refine sts_ok 2 (s' := ⟨[(8, (vGDb (GDb.mk y1))), (7, (.ptr 3 0)), (6, (.d (.sl 1 (y1.map cGData)))), (5, (.d (.sl 1 (p0.tables.map cGData)))), (4, (.ptr 1 0)), (3, (.ptr 3 0)), (2, (.ptr 2 0)), (1, (.ptr 1 0)), (0, (vGDb p0))], [(3, [(.d (.sl 1 (y1.map cGData)))]), (2, [(.d (.sl 1 (y1.map cGData)))]), (1, [(.d (.sl 1 (p0.tables.map cGData)))])]⟩) (by kernel_rfl) ?_
  refine nil_in ?_
  refine next_in ?_
  refine ret_in ?_
  have h := Option.some.inj h; subst h
  exact ret1_step (v := (vGDb (GDb.mk y1))) (by kernel_rfl) (by kernel_rfl) (by kernel_rfl)
theorem OK_wFnExactDbOk (p0 : GCatalog) (p1 : GDb) : FOk Try.prog 8 [(vGCatalog p0), (vGDb p1)] (fun y => (.d (.b y))) (wFnExactDbOk p0 p1) := by
  intro r h
  rw [wFnExactDbOk] at h
  refine acalls_of_fn trwFnExactDbOk (Nat.le_of_ble_eq_true rfl) (by simp) ?_
  show avc Try.prog acwFnExactDbOk (qwFnExactDbOk _) ⟨[(0, (vGCatalog p0)), (1, (vGDb p1))], []⟩
  delta acwFnExactDbOk
  refine seq_in ?_
  refine ops_in ?_
  refine sts_ok 3 (s' := ⟨[(4, (.d (.b false))), (3, (.ptr 3 0)), (2, (.ptr 2 0)), (0, (vGCatalog p0)), (1, (vGDb p1))], [(3, [(.d (.sl 1 (p1.tables.map cGData)))]), (2, [(.d (.sl 2 (p0.tables.map cGTable)))])]⟩) (by kernel_rfl) ?_
  refine nil_in ?_
  refine next_in ?_
  refine seq_in ?_
  refine ops_in ?_
  refine sts_ok 1 (s' := ⟨[(5, (.d (.i .i64 1048576))), (4, (.d (.b false))), (3, (.ptr 3 0)), (2, (.ptr 2 0)), (0, (vGCatalog p0)), (1, (vGDb p1))], [(3, [(.d (.sl 1 (p1.tables.map cGData)))]), (2, [(.d (.sl 2 (p0.tables.map cGTable)))])]⟩) (by kernel_rfl) ?_
  refine nil_in ?_
  refine next_in ?_
  refine seq_in ?_
  refine ops_in ?_
  refine sts_ok 2 (s' := ⟨[(11, (.d (.i .i64 1048576))), (10, (vGCatalog p0)), (5, (.d (.i .i64 1048576))), (4, (.d (.b false))), (3, (.ptr 3 0)), (2, (.ptr 2 0)), (0, (vGCatalog p0)), (1, (vGDb p1))], [(3, [(.d (.sl 1 (p1.tables.map cGData)))]), (2, [(.d (.sl 2 (p0.tables.map cGTable)))])]⟩) (by kernel_rfl) ?_
  refine call_step (m := wSzCatalog p0 1048576) (args := [(vGCatalog p0), (.d (.i .i64 1048576))]) (v' := (fun y => (.d (.i .i64 y)))) h (OK_wSzCatalog p0 1048576) (by kernel_rfl) (by kernel_rfl) (fun _ => rfl) ?_
  clear h; intro y1 h
  refine sts_ok 1 (s' := ⟨[(5, (.d (.i .i64 y1))), (12, (.d (.i .i64 y1))), (11, (.d (.i .i64 1048576))), (10, (vGCatalog p0)), (5, (.d (.i .i64 1048576))), (4, (.d (.b false))), (3, (.ptr 3 0)), (2, (.ptr 2 0)), (0, (vGCatalog p0)), (1, (vGDb p1))], [(3, [(.d (.sl 1 (p1.tables.map cGData)))]), (2, [(.d (.sl 2 (p0.tables.map cGTable)))])]⟩) (by kernel_rfl) ?_
  refine nil_in ?_
  refine next_in ?_
  refine seq_in ?_
  refine seq_in ?_
  refine ops_in ?_
  refine sts_ok 2 (s' := ⟨[(14, (.d (.b (decide (y1 < 0))))), (13, (.d (.i .i64 y1))), (5, (.d (.i .i64 y1))), (12, (.d (.i .i64 y1))), (11, (.d (.i .i64 1048576))), (10, (vGCatalog p0)), (5, (.d (.i .i64 1048576))), (4, (.d (.b false))), (3, (.ptr 3 0)), (2, (.ptr 2 0)), (0, (vGCatalog p0)), (1, (vGDb p1))], [(3, [(.d (.sl 1 (p1.tables.map cGData)))]), (2, [(.d (.sl 2 (p0.tables.map cGTable)))])]⟩) (by kernel_rfl) ?_
  refine nil_in ?_
  refine next_in ?_
  refine cond_step h (by kernel_rfl) ?_ ?_
  · clear h; intro h
    refine seq_in ?_
    refine ops_in ?_
    refine sts_ok 1 (s' := ⟨[(4, (.d (.b true))), (14, (.d (.b (decide (y1 < 0))))), (13, (.d (.i .i64 y1))), (5, (.d (.i .i64 y1))), (12, (.d (.i .i64 y1))), (11, (.d (.i .i64 1048576))), (10, (vGCatalog p0)), (5, (.d (.i .i64 1048576))), (4, (.d (.b false))), (3, (.ptr 3 0)), (2, (.ptr 2 0)), (0, (vGCatalog p0)), (1, (vGDb p1))], [(3, [(.d (.sl 1 (p1.tables.map cGData)))]), (2, [(.d (.sl 2 (p0.tables.map cGTable)))])]⟩) (by kernel_rfl) ?_
    refine nil_in ?_
    refine next_in ?_
    refine ret_in ?_
    refine thenK_ret ?_
    have h := Option.some.inj h; subst h
    exact ret1_step (v := (.d (.b true))) (by kernel_rfl) (by kernel_rfl) (by kernel_rfl)
  · clear h; intro h
    refine skip_in ?_
    refine next_in ?_
    refine seq_in ?_
    refine ops_in ?_
    refine sts_ok 2 (s' := ⟨[(16, (.d (.i .i64 y1))), (15, (vGDb p1)), (14, (.d (.b (decide (y1 < 0))))), (13, (.d (.i .i64 y1))), (5, (.d (.i .i64 y1))), (12, (.d (.i .i64 y1))), (11, (.d (.i .i64 1048576))), (10, (vGCatalog p0)), (5, (.d (.i .i64 1048576))), (4, (.d (.b false))), (3, (.ptr 3 0)), (2, (.ptr 2 0)), (0, (vGCatalog p0)), (1, (vGDb p1))], [(3, [(.d (.sl 1 (p1.tables.map cGData)))]), (2, [(.d (.sl 2 (p0.tables.map cGTable)))])]⟩) (by kernel_rfl) ?_
    refine call_step (m := wSzDb p1 y1) (args := [(vGDb p1), (.d (.i .i64 y1))]) (v' := (fun y => (.d (.i .i64 y)))) h (OK_wSzDb p1 y1) (by kernel_rfl) (by kernel_rfl) (fun _ => rfl) ?_
    clear h; intro y2 h
    refine sts_ok 1 (s' := ⟨[(5, (.d (.i .i64 y2))), (17, (.d (.i .i64 y2))), (16, (.d (.i .i64 y1))), (15, (vGDb p1)), (14, (.d (.b (decide (y1 < 0))))), (13, (.d (.i .i64 y1))), (5, (.d (.i .i64 y1))), (12, (.d (.i .i64 y1))), (11, (.d (.i .i64 1048576))), (10, (vGCatalog p0)), (5, (.d (.i .i64 1048576))), (4, (.d (.b false))), (3, (.ptr 3 0)), (2, (.ptr 2 0)), (0, (vGCatalog p0)), (1, (vGDb p1))], [(3, [(.d (.sl 1 (p1.tables.map cGData)))]), (2, [(.d (.sl 2 (p0.tables.map cGTable)))])]⟩) (by kernel_rfl) ?_
    refine nil_in ?_
    refine next_in ?_
    refine seq_in ?_
    refine seq_in ?_
    refine ops_in ?_
    refine sts_ok 2 (s' := ⟨[(19, (.d (.b (decide (y2 < 0))))), (18, (.d (.i .i64 y2))), (5, (.d (.i .i64 y2))), (17, (.d (.i .i64 y2))), (16, (.d (.i .i64 y1))), (15, (vGDb p1)), (14, (.d (.b (decide (y1 < 0))))), (13, (.d (.i .i64 y1))), (5, (.d (.i .i64 y1))), (12, (.d (.i .i64 y1))), (11, (.d (.i .i64 1048576))), (10, (vGCatalog p0)), (5, (.d (.i .i64 1048576))), (4, (.d (.b false))), (3, (.ptr 3 0)), (2, (.ptr 2 0)), (0, (vGCatalog p0)), (1, (vGDb p1))], [(3, [(.d (.sl 1 (p1.tables.map cGData)))]), (2, [(.d (.sl 2 (p0.tables.map cGTable)))])]⟩) (by kernel_rfl) ?_
    refine nil_in ?_
    refine next_in ?_
    refine cond_step h (by kernel_rfl) ?_ ?_
    · clear h; intro h
      refine seq_in ?_
      refine ops_in ?_
      refine sts_ok 1 (s' := ⟨[(4, (.d (.b true))), (19, (.d (.b (decide (y2 < 0))))), (18, (.d (.i .i64 y2))), (5, (.d (.i .i64 y2))), (17, (.d (.i .i64 y2))), (16, (.d (.i .i64 y1))), (15, (vGDb p1)), (14, (.d (.b (decide (y1 < 0))))), (13, (.d (.i .i64 y1))), (5, (.d (.i .i64 y1))), (12, (.d (.i .i64 y1))), (11, (.d (.i .i64 1048576))), (10, (vGCatalog p0)), (5, (.d (.i .i64 1048576))), (4, (.d (.b false))), (3, (.ptr 3 0)), (2, (.ptr 2 0)), (0, (vGCatalog p0)), (1, (vGDb p1))], [(3, [(.d (.sl 1 (p1.tables.map cGData)))]), (2, [(.d (.sl 2 (p0.tables.map cGTable)))])]⟩) (by kernel_rfl) ?_
      refine nil_in ?_
      refine next_in ?_
      refine ret_in ?_
      refine thenK_ret ?_
      have h := Option.some.inj h; subst h
      exact ret1_step (v := (.d (.b true))) (by kernel_rfl) (by kernel_rfl) (by kernel_rfl)
    · clear h; intro h
      refine skip_in ?_
      refine next_in ?_
      refine seq_in ?_
      refine dops_in ?_
      refine dsts_ok 1 (s' := ⟨[(20, (vGCatalog p0)), (19, (.d (.b (decide (y2 < 0))))), (18, (.d (.i .i64 y2))), (5, (.d (.i .i64 y2))), (17, (.d (.i .i64 y2))), (16, (.d (.i .i64 y1))), (15, (vGDb p1)), (14, (.d (.b (decide (y1 < 0))))), (13, (.d (.i .i64 y1))), (5, (.d (.i .i64 y1))), (12, (.d (.i .i64 y1))), (11, (.d (.i .i64 1048576))), (10, (vGCatalog p0)), (5, (.d (.i .i64 1048576))), (4, (.d (.b false))), (3, (.ptr 3 0)), (2, (.ptr 2 0)), (0, (vGCatalog p0)), (1, (vGDb p1))], [(3, [(.d (.sl 1 (p1.tables.map cGData)))]), (2, [(.d (.sl 2 (p0.tables.map cGTable)))])]⟩) (by kernel_rfl) ?_
      refine dcall_step (m := wToCatalog p0) (args := [(vGCatalog p0)]) (v' := (fun y => (vGCatalog y))) h (OK_wToCatalog p0) (by kernel_rfl) (by kernel_rfl) (fun _ => rfl) ?_
      clear h; intro y3 h
      refine dsts_ok 1 (s' := ⟨[(22, (vGDb p1)), (21, (vGCatalog y3)), (20, (vGCatalog p0)), (19, (.d (.b (decide (y2 < 0))))), (18, (.d (.i .i64 y2))), (5, (.d (.i .i64 y2))), (17, (.d (.i .i64 y2))), (16, (.d (.i .i64 y1))), (15, (vGDb p1)), (14, (.d (.b (decide (y1 < 0))))), (13, (.d (.i .i64 y1))), (5, (.d (.i .i64 y1))), (12, (.d (.i .i64 y1))), (11, (.d (.i .i64 1048576))), (10, (vGCatalog p0)), (5, (.d (.i .i64 1048576))), (4, (.d (.b false))), (3, (.ptr 3 0)), (2, (.ptr 2 0)), (0, (vGCatalog p0)), (1, (vGDb p1))], [(3, [(.d (.sl 1 (p1.tables.map cGData)))]), (2, [(.d (.sl 2 (p0.tables.map cGTable)))])]⟩) (by kernel_rfl) ?_
      refine dcall_step (m := wToDb p1) (args := [(vGDb p1)]) (v' := (fun y => (vGDb y))) h (OK_wToDb p1) (by kernel_rfl) (by kernel_rfl) (fun _ => rfl) ?_
      clear h; intro y4 h
      refine dcall_step (m := sDbOk y3 y4) (args := [(vGCatalog y3), (vGDb y4)]) (v' := (fun y => (.d (.b y)))) h (OK_sDbOk y3 y4) (by kernel_rfl) (by kernel_rfl) (fun _ => rfl) ?_
      clear h; intro y5 h
      refine dsts_ok 1 (s' := ⟨[(6, (.d (.b y5))), (24, (.d (.b y5))), (23, (vGDb y4)), (22, (vGDb p1)), (21, (vGCatalog y3)), (20, (vGCatalog p0)), (19, (.d (.b (decide (y2 < 0))))), (18, (.d (.i .i64 y2))), (5, (.d (.i .i64 y2))), (17, (.d (.i .i64 y2))), (16, (.d (.i .i64 y1))), (15, (vGDb p1)), (14, (.d (.b (decide (y1 < 0))))), (13, (.d (.i .i64 y1))), (5, (.d (.i .i64 y1))), (12, (.d (.i .i64 y1))), (11, (.d (.i .i64 1048576))), (10, (vGCatalog p0)), (5, (.d (.i .i64 1048576))), (4, (.d (.b false))), (3, (.ptr 3 0)), (2, (.ptr 2 0)), (0, (vGCatalog p0)), (1, (vGDb p1))], [(3, [(.d (.sl 1 (p1.tables.map cGData)))]), (2, [(.d (.sl 2 (p0.tables.map cGTable)))])]⟩) (by kernel_rfl) ?_
      refine dnil_in (by kernel_rfl) (by kernel_rfl) ?_
      refine next_in ?_
      refine seq_in ?_
      refine ops_in ?_
      refine sts_ok 1 (s' := ⟨[(25, (vGCatalog p0)), (6, (.d (.b y5))), (24, (.d (.b y5))), (23, (vGDb y4)), (22, (vGDb p1)), (21, (vGCatalog y3)), (20, (vGCatalog p0)), (19, (.d (.b (decide (y2 < 0))))), (18, (.d (.i .i64 y2))), (5, (.d (.i .i64 y2))), (17, (.d (.i .i64 y2))), (16, (.d (.i .i64 y1))), (15, (vGDb p1)), (14, (.d (.b (decide (y1 < 0))))), (13, (.d (.i .i64 y1))), (5, (.d (.i .i64 y1))), (12, (.d (.i .i64 y1))), (11, (.d (.i .i64 1048576))), (10, (vGCatalog p0)), (5, (.d (.i .i64 1048576))), (4, (.d (.b false))), (3, (.ptr 3 0)), (2, (.ptr 2 0)), (0, (vGCatalog p0)), (1, (vGDb p1))], [(3, [(.d (.sl 1 (p1.tables.map cGData)))]), (2, [(.d (.sl 2 (p0.tables.map cGTable)))])]⟩) (by kernel_rfl) ?_
      refine call_step (m := wToCatalog p0) (args := [(vGCatalog p0)]) (v' := (fun y => (vGCatalog y))) h (OK_wToCatalog p0) (by kernel_rfl) (by kernel_rfl) (fun _ => rfl) ?_
      clear h; intro y6 h
      refine sts_ok 2 (s' := ⟨[(7, (.ptr 7 0)), (26, (vGCatalog y6)), (25, (vGCatalog p0)), (6, (.d (.b y5))), (24, (.d (.b y5))), (23, (vGDb y4)), (22, (vGDb p1)), (21, (vGCatalog y3)), (20, (vGCatalog p0)), (19, (.d (.b (decide (y2 < 0))))), (18, (.d (.i .i64 y2))), (5, (.d (.i .i64 y2))), (17, (.d (.i .i64 y2))), (16, (.d (.i .i64 y1))), (15, (vGDb p1)), (14, (.d (.b (decide (y1 < 0))))), (13, (.d (.i .i64 y1))), (5, (.d (.i .i64 y1))), (12, (.d (.i .i64 y1))), (11, (.d (.i .i64 1048576))), (10, (vGCatalog p0)), (5, (.d (.i .i64 1048576))), (4, (.d (.b false))), (3, (.ptr 3 0)), (2, (.ptr 2 0)), (0, (vGCatalog p0)), (1, (vGDb p1))], [(7, [(.d (.sl 2 (y6.tables.map cGTable)))]), (3, [(.d (.sl 1 (p1.tables.map cGData)))]), (2, [(.d (.sl 2 (p0.tables.map cGTable)))])]⟩) (by kernel_rfl) ?_
      refine nil_in ?_
      refine next_in ?_
      refine seq_in ?_
      refine ops_in ?_
      refine sts_ok 1 (s' := ⟨[(27, (vGDb p1)), (7, (.ptr 7 0)), (26, (vGCatalog y6)), (25, (vGCatalog p0)), (6, (.d (.b y5))), (24, (.d (.b y5))), (23, (vGDb y4)), (22, (vGDb p1)), (21, (vGCatalog y3)), (20, (vGCatalog p0)), (19, (.d (.b (decide (y2 < 0))))), (18, (.d (.i .i64 y2))), (5, (.d (.i .i64 y2))), (17, (.d (.i .i64 y2))), (16, (.d (.i .i64 y1))), (15, (vGDb p1)), (14, (.d (.b (decide (y1 < 0))))), (13, (.d (.i .i64 y1))), (5, (.d (.i .i64 y1))), (12, (.d (.i .i64 y1))), (11, (.d (.i .i64 1048576))), (10, (vGCatalog p0)), (5, (.d (.i .i64 1048576))), (4, (.d (.b false))), (3, (.ptr 3 0)), (2, (.ptr 2 0)), (0, (vGCatalog p0)), (1, (vGDb p1))], [(7, [(.d (.sl 2 (y6.tables.map cGTable)))]), (3, [(.d (.sl 1 (p1.tables.map cGData)))]), (2, [(.d (.sl 2 (p0.tables.map cGTable)))])]⟩) (by kernel_rfl) ?_
      refine call_step (m := wToDb p1) (args := [(vGDb p1)]) (v' := (fun y => (vGDb y))) h (OK_wToDb p1) (by kernel_rfl) (by kernel_rfl) (fun _ => rfl) ?_
      clear h; intro y7 h
      refine sts_ok 2 (s' := ⟨[(8, (.ptr 8 0)), (28, (vGDb y7)), (27, (vGDb p1)), (7, (.ptr 7 0)), (26, (vGCatalog y6)), (25, (vGCatalog p0)), (6, (.d (.b y5))), (24, (.d (.b y5))), (23, (vGDb y4)), (22, (vGDb p1)), (21, (vGCatalog y3)), (20, (vGCatalog p0)), (19, (.d (.b (decide (y2 < 0))))), (18, (.d (.i .i64 y2))), (5, (.d (.i .i64 y2))), (17, (.d (.i .i64 y2))), (16, (.d (.i .i64 y1))), (15, (vGDb p1)), (14, (.d (.b (decide (y1 < 0))))), (13, (.d (.i .i64 y1))), (5, (.d (.i .i64 y1))), (12, (.d (.i .i64 y1))), (11, (.d (.i .i64 1048576))), (10, (vGCatalog p0)), (5, (.d (.i .i64 1048576))), (4, (.d (.b false))), (3, (.ptr 3 0)), (2, (.ptr 2 0)), (0, (vGCatalog p0)), (1, (vGDb p1))], [(8, [(.d (.sl 1 (y7.tables.map cGData)))]), (7, [(.d (.sl 2 (y6.tables.map cGTable)))]), (3, [(.d (.sl 1 (p1.tables.map cGData)))]), (2, [(.d (.sl 2 (p0.tables.map cGTable)))])]⟩) (by kernel_rfl) ?_
      refine nil_in ?_
      refine next_in ?_
      refine seq_in ?_
      refine ops_in ?_
      refine sts_ok 2 (s' := ⟨[(30, (vGDb y7)), (29, (vGCatalog y6)), (8, (.ptr 8 0)), (28, (vGDb y7)), (27, (vGDb p1)), (7, (.ptr 7 0)), (26, (vGCatalog y6)), (25, (vGCatalog p0)), (6, (.d (.b y5))), (24, (.d (.b y5))), (23, (vGDb y4)), (22, (vGDb p1)), (21, (vGCatalog y3)), (20, (vGCatalog p0)), (19, (.d (.b (decide (y2 < 0))))), (18, (.d (.i .i64 y2))), (5, (.d (.i .i64 y2))), (17, (.d (.i .i64 y2))), (16, (.d (.i .i64 y1))), (15, (vGDb p1)), (14, (.d (.b (decide (y1 < 0))))), (13, (.d (.i .i64 y1))), (5, (.d (.i .i64 y1))), (12, (.d (.i .i64 y1))), (11, (.d (.i .i64 1048576))), (10, (vGCatalog p0)), (5, (.d (.i .i64 1048576))), (4, (.d (.b false))), (3, (.ptr 3 0)), (2, (.ptr 2 0)), (0, (vGCatalog p0)), (1, (vGDb p1))], [(8, [(.d (.sl 1 (y7.tables.map cGData)))]), (7, [(.d (.sl 2 (y6.tables.map cGTable)))]), (3, [(.d (.sl 1 (p1.tables.map cGData)))]), (2, [(.d (.sl 2 (p0.tables.map cGTable)))])]⟩) (by kernel_rfl) ?_
      refine call_step (m := iDbOk y6 y7) (args := [(vGCatalog y6), (vGDb y7)]) (v' := (fun y => (.d (.b y)))) h (OK_iDbOk y6 y7) (by kernel_rfl) (by kernel_rfl) (fun _ => rfl) ?_
      clear h; intro y8 h
      refine sts_ok 1 (s' := ⟨[(9, (.d (.b y8))), (31, (.d (.b y8))), (30, (vGDb y7)), (29, (vGCatalog y6)), (8, (.ptr 8 0)), (28, (vGDb y7)), (27, (vGDb p1)), (7, (.ptr 7 0)), (26, (vGCatalog y6)), (25, (vGCatalog p0)), (6, (.d (.b y5))), (24, (.d (.b y5))), (23, (vGDb y4)), (22, (vGDb p1)), (21, (vGCatalog y3)), (20, (vGCatalog p0)), (19, (.d (.b (decide (y2 < 0))))), (18, (.d (.i .i64 y2))), (5, (.d (.i .i64 y2))), (17, (.d (.i .i64 y2))), (16, (.d (.i .i64 y1))), (15, (vGDb p1)), (14, (.d (.b (decide (y1 < 0))))), (13, (.d (.i .i64 y1))), (5, (.d (.i .i64 y1))), (12, (.d (.i .i64 y1))), (11, (.d (.i .i64 1048576))), (10, (vGCatalog p0)), (5, (.d (.i .i64 1048576))), (4, (.d (.b false))), (3, (.ptr 3 0)), (2, (.ptr 2 0)), (0, (vGCatalog p0)), (1, (vGDb p1))], [(8, [(.d (.sl 1 (y7.tables.map cGData)))]), (7, [(.d (.sl 2 (y6.tables.map cGTable)))]), (3, [(.d (.sl 1 (p1.tables.map cGData)))]), (2, [(.d (.sl 2 (p0.tables.map cGTable)))])]⟩) (by kernel_rfl) ?_
      refine nil_in ?_
      refine next_in ?_
      refine seq_in ?_
      refine seq_in ?_
      refine ops_in ?_
      refine sts_ok 3 (s' := ⟨[(34, (.d (.b (!(y8 == y5))))), (33, (.d (.b y5))), (32, (.d (.b y8))), (9, (.d (.b y8))), (31, (.d (.b y8))), (30, (vGDb y7)), (29, (vGCatalog y6)), (8, (.ptr 8 0)), (28, (vGDb y7)), (27, (vGDb p1)), (7, (.ptr 7 0)), (26, (vGCatalog y6)), (25, (vGCatalog p0)), (6, (.d (.b y5))), (24, (.d (.b y5))), (23, (vGDb y4)), (22, (vGDb p1)), (21, (vGCatalog y3)), (20, (vGCatalog p0)), (19, (.d (.b (decide (y2 < 0))))), (18, (.d (.i .i64 y2))), (5, (.d (.i .i64 y2))), (17, (.d (.i .i64 y2))), (16, (.d (.i .i64 y1))), (15, (vGDb p1)), (14, (.d (.b (decide (y1 < 0))))), (13, (.d (.i .i64 y1))), (5, (.d (.i .i64 y1))), (12, (.d (.i .i64 y1))), (11, (.d (.i .i64 1048576))), (10, (vGCatalog p0)), (5, (.d (.i .i64 1048576))), (4, (.d (.b false))), (3, (.ptr 3 0)), (2, (.ptr 2 0)), (0, (vGCatalog p0)), (1, (vGDb p1))], [(8, [(.d (.sl 1 (y7.tables.map cGData)))]), (7, [(.d (.sl 2 (y6.tables.map cGTable)))]), (3, [(.d (.sl 1 (p1.tables.map cGData)))]), (2, [(.d (.sl 2 (p0.tables.map cGTable)))])]⟩) (by kernel_rfl) ?_
      refine nil_in ?_
      refine next_in ?_
      refine cond_step h (by kernel_rfl) ?_ ?_
      · clear h; intro h
        refine seq_in ?_
        refine ops_in ?_
        refine sts_ok 1 (s' := ⟨[(4, (.d (.b false))), (34, (.d (.b (!(y8 == y5))))), (33, (.d (.b y5))), (32, (.d (.b y8))), (9, (.d (.b y8))), (31, (.d (.b y8))), (30, (vGDb y7)), (29, (vGCatalog y6)), (8, (.ptr 8 0)), (28, (vGDb y7)), (27, (vGDb p1)), (7, (.ptr 7 0)), (26, (vGCatalog y6)), (25, (vGCatalog p0)), (6, (.d (.b y5))), (24, (.d (.b y5))), (23, (vGDb y4)), (22, (vGDb p1)), (21, (vGCatalog y3)), (20, (vGCatalog p0)), (19, (.d (.b (decide (y2 < 0))))), (18, (.d (.i .i64 y2))), (5, (.d (.i .i64 y2))), (17, (.d (.i .i64 y2))), (16, (.d (.i .i64 y1))), (15, (vGDb p1)), (14, (.d (.b (decide (y1 < 0))))), (13, (.d (.i .i64 y1))), (5, (.d (.i .i64 y1))), (12, (.d (.i .i64 y1))), (11, (.d (.i .i64 1048576))), (10, (vGCatalog p0)), (5, (.d (.i .i64 1048576))), (4, (.d (.b false))), (3, (.ptr 3 0)), (2, (.ptr 2 0)), (0, (vGCatalog p0)), (1, (vGDb p1))], [(8, [(.d (.sl 1 (y7.tables.map cGData)))]), (7, [(.d (.sl 2 (y6.tables.map cGTable)))]), (3, [(.d (.sl 1 (p1.tables.map cGData)))]), (2, [(.d (.sl 2 (p0.tables.map cGTable)))])]⟩) (by kernel_rfl) ?_
        refine nil_in ?_
        refine next_in ?_
        refine ret_in ?_
        refine thenK_ret ?_
        have h := Option.some.inj h; subst h
        exact ret1_step (v := (.d (.b false))) (by kernel_rfl) (by kernel_rfl) (by kernel_rfl)
      · clear h; intro h
        refine skip_in ?_
        refine next_in ?_
        refine seq_in ?_
        refine seq_in ?_
        refine dops_in ?_
        refine dsts_ok 2 (s' := ⟨[(36, (vGCatalog p0)), (35, (vGCatalog y6)), (34, (.d (.b (!(y8 == y5))))), (33, (.d (.b y5))), (32, (.d (.b y8))), (9, (.d (.b y8))), (31, (.d (.b y8))), (30, (vGDb y7)), (29, (vGCatalog y6)), (8, (.ptr 8 0)), (28, (vGDb y7)), (27, (vGDb p1)), (7, (.ptr 7 0)), (26, (vGCatalog y6)), (25, (vGCatalog p0)), (6, (.d (.b y5))), (24, (.d (.b y5))), (23, (vGDb y4)), (22, (vGDb p1)), (21, (vGCatalog y3)), (20, (vGCatalog p0)), (19, (.d (.b (decide (y2 < 0))))), (18, (.d (.i .i64 y2))), (5, (.d (.i .i64 y2))), (17, (.d (.i .i64 y2))), (16, (.d (.i .i64 y1))), (15, (vGDb p1)), (14, (.d (.b (decide (y1 < 0))))), (13, (.d (.i .i64 y1))), (5, (.d (.i .i64 y1))), (12, (.d (.i .i64 y1))), (11, (.d (.i .i64 1048576))), (10, (vGCatalog p0)), (5, (.d (.i .i64 1048576))), (4, (.d (.b false))), (3, (.ptr 3 0)), (2, (.ptr 2 0)), (0, (vGCatalog p0)), (1, (vGDb p1))], [(8, [(.d (.sl 1 (y7.tables.map cGData)))]), (7, [(.d (.sl 2 (y6.tables.map cGTable)))]), (3, [(.d (.sl 1 (p1.tables.map cGData)))]), (2, [(.d (.sl 2 (p0.tables.map cGTable)))])]⟩) (by kernel_rfl) ?_
        refine dcall_step (m := wToCatalog p0) (args := [(vGCatalog p0)]) (v' := (fun y => (vGCatalog y))) h (OK_wToCatalog p0) (by kernel_rfl) (by kernel_rfl) (fun _ => rfl) ?_
        clear h; intro y9 h
        refine dcall_step (m := wEqCatalog y6 y9) (args := [(vGCatalog y6), (vGCatalog y9)]) (v' := (fun y => (.d (.b y)))) h (OK_wEqCatalog y6 y9) (by kernel_rfl) (by kernel_rfl) (fun _ => rfl) ?_
        clear h; intro y10 h
        refine dsts_ok 1 (s' := ⟨[(39, (.d (.b (!y10)))), (38, (.d (.b y10))), (37, (vGCatalog y9)), (36, (vGCatalog p0)), (35, (vGCatalog y6)), (34, (.d (.b (!(y8 == y5))))), (33, (.d (.b y5))), (32, (.d (.b y8))), (9, (.d (.b y8))), (31, (.d (.b y8))), (30, (vGDb y7)), (29, (vGCatalog y6)), (8, (.ptr 8 0)), (28, (vGDb y7)), (27, (vGDb p1)), (7, (.ptr 7 0)), (26, (vGCatalog y6)), (25, (vGCatalog p0)), (6, (.d (.b y5))), (24, (.d (.b y5))), (23, (vGDb y4)), (22, (vGDb p1)), (21, (vGCatalog y3)), (20, (vGCatalog p0)), (19, (.d (.b (decide (y2 < 0))))), (18, (.d (.i .i64 y2))), (5, (.d (.i .i64 y2))), (17, (.d (.i .i64 y2))), (16, (.d (.i .i64 y1))), (15, (vGDb p1)), (14, (.d (.b (decide (y1 < 0))))), (13, (.d (.i .i64 y1))), (5, (.d (.i .i64 y1))), (12, (.d (.i .i64 y1))), (11, (.d (.i .i64 1048576))), (10, (vGCatalog p0)), (5, (.d (.i .i64 1048576))), (4, (.d (.b false))), (3, (.ptr 3 0)), (2, (.ptr 2 0)), (0, (vGCatalog p0)), (1, (vGDb p1))], [(8, [(.d (.sl 1 (y7.tables.map cGData)))]), (7, [(.d (.sl 2 (y6.tables.map cGTable)))]), (3, [(.d (.sl 1 (p1.tables.map cGData)))]), (2, [(.d (.sl 2 (p0.tables.map cGTable)))])]⟩) (by kernel_rfl) ?_
        refine dnil_in (by kernel_rfl) (by kernel_rfl) ?_
        refine next_in ?_
        refine cond_step h (by kernel_rfl) ?_ ?_
        · clear h; intro h
          refine seq_in ?_
          refine ops_in ?_
          refine sts_ok 1 (s' := ⟨[(4, (.d (.b false))), (39, (.d (.b (!y10)))), (38, (.d (.b y10))), (37, (vGCatalog y9)), (36, (vGCatalog p0)), (35, (vGCatalog y6)), (34, (.d (.b (!(y8 == y5))))), (33, (.d (.b y5))), (32, (.d (.b y8))), (9, (.d (.b y8))), (31, (.d (.b y8))), (30, (vGDb y7)), (29, (vGCatalog y6)), (8, (.ptr 8 0)), (28, (vGDb y7)), (27, (vGDb p1)), (7, (.ptr 7 0)), (26, (vGCatalog y6)), (25, (vGCatalog p0)), (6, (.d (.b y5))), (24, (.d (.b y5))), (23, (vGDb y4)), (22, (vGDb p1)), (21, (vGCatalog y3)), (20, (vGCatalog p0)), (19, (.d (.b (decide (y2 < 0))))), (18, (.d (.i .i64 y2))), (5, (.d (.i .i64 y2))), (17, (.d (.i .i64 y2))), (16, (.d (.i .i64 y1))), (15, (vGDb p1)), (14, (.d (.b (decide (y1 < 0))))), (13, (.d (.i .i64 y1))), (5, (.d (.i .i64 y1))), (12, (.d (.i .i64 y1))), (11, (.d (.i .i64 1048576))), (10, (vGCatalog p0)), (5, (.d (.i .i64 1048576))), (4, (.d (.b false))), (3, (.ptr 3 0)), (2, (.ptr 2 0)), (0, (vGCatalog p0)), (1, (vGDb p1))], [(8, [(.d (.sl 1 (y7.tables.map cGData)))]), (7, [(.d (.sl 2 (y6.tables.map cGTable)))]), (3, [(.d (.sl 1 (p1.tables.map cGData)))]), (2, [(.d (.sl 2 (p0.tables.map cGTable)))])]⟩) (by kernel_rfl) ?_
          refine nil_in ?_
          refine next_in ?_
          refine ret_in ?_
          refine thenK_ret ?_
          have h := Option.some.inj h; subst h
          exact ret1_step (v := (.d (.b false))) (by kernel_rfl) (by kernel_rfl) (by kernel_rfl)
        · clear h; intro h
          refine skip_in ?_
          refine next_in ?_
          refine seq_in ?_
          refine seq_in ?_
          refine dops_in ?_
          refine dsts_ok 2 (s' := ⟨[(41, (vGDb p1)), (40, (vGDb y7)), (39, (.d (.b (!y10)))), (38, (.d (.b y10))), (37, (vGCatalog y9)), (36, (vGCatalog p0)), (35, (vGCatalog y6)), (34, (.d (.b (!(y8 == y5))))), (33, (.d (.b y5))), (32, (.d (.b y8))), (9, (.d (.b y8))), (31, (.d (.b y8))), (30, (vGDb y7)), (29, (vGCatalog y6)), (8, (.ptr 8 0)), (28, (vGDb y7)), (27, (vGDb p1)), (7, (.ptr 7 0)), (26, (vGCatalog y6)), (25, (vGCatalog p0)), (6, (.d (.b y5))), (24, (.d (.b y5))), (23, (vGDb y4)), (22, (vGDb p1)), (21, (vGCatalog y3)), (20, (vGCatalog p0)), (19, (.d (.b (decide (y2 < 0))))), (18, (.d (.i .i64 y2))), (5, (.d (.i .i64 y2))), (17, (.d (.i .i64 y2))), (16, (.d (.i .i64 y1))), (15, (vGDb p1)), (14, (.d (.b (decide (y1 < 0))))), (13, (.d (.i .i64 y1))), (5, (.d (.i .i64 y1))), (12, (.d (.i .i64 y1))), (11, (.d (.i .i64 1048576))), (10, (vGCatalog p0)), (5, (.d (.i .i64 1048576))), (4, (.d (.b false))), (3, (.ptr 3 0)), (2, (.ptr 2 0)), (0, (vGCatalog p0)), (1, (vGDb p1))], [(8, [(.d (.sl 1 (y7.tables.map cGData)))]), (7, [(.d (.sl 2 (y6.tables.map cGTable)))]), (3, [(.d (.sl 1 (p1.tables.map cGData)))]), (2, [(.d (.sl 2 (p0.tables.map cGTable)))])]⟩) (by kernel_rfl) ?_
          refine dcall_step (m := wToDb p1) (args := [(vGDb p1)]) (v' := (fun y => (vGDb y))) h (OK_wToDb p1) (by kernel_rfl) (by kernel_rfl) (fun _ => rfl) ?_
          clear h; intro y11 h
          refine dcall_step (m := wEqDb y7 y11) (args := [(vGDb y7), (vGDb y11)]) (v' := (fun y => (.d (.b y)))) h (OK_wEqDb y7 y11) (by kernel_rfl) (by kernel_rfl) (fun _ => rfl) ?_
          clear h; intro y12 h
          refine dsts_ok 1 (s' := ⟨[(44, (.d (.b (!y12)))), (43, (.d (.b y12))), (42, (vGDb y11)), (41, (vGDb p1)), (40, (vGDb y7)), (39, (.d (.b (!y10)))), (38, (.d (.b y10))), (37, (vGCatalog y9)), (36, (vGCatalog p0)), (35, (vGCatalog y6)), (34, (.d (.b (!(y8 == y5))))), (33, (.d (.b y5))), (32, (.d (.b y8))), (9, (.d (.b y8))), (31, (.d (.b y8))), (30, (vGDb y7)), (29, (vGCatalog y6)), (8, (.ptr 8 0)), (28, (vGDb y7)), (27, (vGDb p1)), (7, (.ptr 7 0)), (26, (vGCatalog y6)), (25, (vGCatalog p0)), (6, (.d (.b y5))), (24, (.d (.b y5))), (23, (vGDb y4)), (22, (vGDb p1)), (21, (vGCatalog y3)), (20, (vGCatalog p0)), (19, (.d (.b (decide (y2 < 0))))), (18, (.d (.i .i64 y2))), (5, (.d (.i .i64 y2))), (17, (.d (.i .i64 y2))), (16, (.d (.i .i64 y1))), (15, (vGDb p1)), (14, (.d (.b (decide (y1 < 0))))), (13, (.d (.i .i64 y1))), (5, (.d (.i .i64 y1))), (12, (.d (.i .i64 y1))), (11, (.d (.i .i64 1048576))), (10, (vGCatalog p0)), (5, (.d (.i .i64 1048576))), (4, (.d (.b false))), (3, (.ptr 3 0)), (2, (.ptr 2 0)), (0, (vGCatalog p0)), (1, (vGDb p1))], [(8, [(.d (.sl 1 (y7.tables.map cGData)))]), (7, [(.d (.sl 2 (y6.tables.map cGTable)))]), (3, [(.d (.sl 1 (p1.tables.map cGData)))]), (2, [(.d (.sl 2 (p0.tables.map cGTable)))])]⟩) (by kernel_rfl) ?_
          refine dnil_in (by kernel_rfl) (by kernel_rfl) ?_
          refine next_in ?_
          refine cond_step h (by kernel_rfl) ?_ ?_
          · clear h; intro h
            refine seq_in ?_
            refine ops_in ?_
            refine sts_ok 1 (s' := ⟨[(4, (.d (.b false))), (44, (.d (.b (!y12)))), (43, (.d (.b y12))), (42, (vGDb y11)), (41, (vGDb p1)), (40, (vGDb y7)), (39, (.d (.b (!y10)))), (38, (.d (.b y10))), (37, (vGCatalog y9)), (36, (vGCatalog p0)), (35, (vGCatalog y6)), (34, (.d (.b (!(y8 == y5))))), (33, (.d (.b y5))), (32, (.d (.b y8))), (9, (.d (.b y8))), (31, (.d (.b y8))), (30, (vGDb y7)), (29, (vGCatalog y6)), (8, (.ptr 8 0)), (28, (vGDb y7)), (27, (vGDb p1)), (7, (.ptr 7 0)), (26, (vGCatalog y6)), (25, (vGCatalog p0)), (6, (.d (.b y5))), (24, (.d (.b y5))), (23, (vGDb y4)), (22, (vGDb p1)), (21, (vGCatalog y3)), (20, (vGCatalog p0)), (19, (.d (.b (decide (y2 < 0))))), (18, (.d (.i .i64 y2))), (5, (.d (.i .i64 y2))), (17, (.d (.i .i64 y2))), (16, (.d (.i .i64 y1))), (15, (vGDb p1)), (14, (.d (.b (decide (y1 < 0))))), (13, (.d (.i .i64 y1))), (5, (.d (.i .i64 y1))), (12, (.d (.i .i64 y1))), (11, (.d (.i .i64 1048576))), (10, (vGCatalog p0)), (5, (.d (.i .i64 1048576))), (4, (.d (.b false))), (3, (.ptr 3 0)), (2, (.ptr 2 0)), (0, (vGCatalog p0)), (1, (vGDb p1))], [(8, [(.d (.sl 1 (y7.tables.map cGData)))]), (7, [(.d (.sl 2 (y6.tables.map cGTable)))]), (3, [(.d (.sl 1 (p1.tables.map cGData)))]), (2, [(.d (.sl 2 (p0.tables.map cGTable)))])]⟩) (by kernel_rfl) ?_
            refine nil_in ?_
            refine next_in ?_
            refine ret_in ?_
            refine thenK_ret ?_
            have h := Option.some.inj h; subst h
            exact ret1_step (v := (.d (.b false))) (by kernel_rfl) (by kernel_rfl) (by kernel_rfl)
          · clear h; intro h
            refine skip_in ?_
            refine next_in ?_
            refine seq_in ?_
            refine ops_in ?_
            refine sts_ok 1 (s' := ⟨[(4, (.d (.b true))), (44, (.d (.b (!y12)))), (43, (.d (.b y12))), (42, (vGDb y11)), (41, (vGDb p1)), (40, (vGDb y7)), (39, (.d (.b (!y10)))), (38, (.d (.b y10))), (37, (vGCatalog y9)), (36, (vGCatalog p0)), (35, (vGCatalog y6)), (34, (.d (.b (!(y8 == y5))))), (33, (.d (.b y5))), (32, (.d (.b y8))), (9, (.d (.b y8))), (31, (.d (.b y8))), (30, (vGDb y7)), (29, (vGCatalog y6)), (8, (.ptr 8 0)), (28, (vGDb y7)), (27, (vGDb p1)), (7, (.ptr 7 0)), (26, (vGCatalog y6)), (25, (vGCatalog p0)), (6, (.d (.b y5))), (24, (.d (.b y5))), (23, (vGDb y4)), (22, (vGDb p1)), (21, (vGCatalog y3)), (20, (vGCatalog p0)), (19, (.d (.b (decide (y2 < 0))))), (18, (.d (.i .i64 y2))), (5, (.d (.i .i64 y2))), (17, (.d (.i .i64 y2))), (16, (.d (.i .i64 y1))), (15, (vGDb p1)), (14, (.d (.b (decide (y1 < 0))))), (13, (.d (.i .i64 y1))), (5, (.d (.i .i64 y1))), (12, (.d (.i .i64 y1))), (11, (.d (.i .i64 1048576))), (10, (vGCatalog p0)), (5, (.d (.i .i64 1048576))), (4, (.d (.b false))), (3, (.ptr 3 0)), (2, (.ptr 2 0)), (0, (vGCatalog p0)), (1, (vGDb p1))], [(8, [(.d (.sl 1 (y7.tables.map cGData)))]), (7, [(.d (.sl 2 (y6.tables.map cGTable)))]), (3, [(.d (.sl 1 (p1.tables.map cGData)))]), (2, [(.d (.sl 2 (p0.tables.map cGTable)))])]⟩) (by kernel_rfl) ?_
            refine nil_in ?_
            refine next_in ?_
            refine ret_in ?_
            have h := Option.some.inj h; subst h
            exact ret1_step (v := (.d (.b true))) (by kernel_rfl) (by kernel_rfl) (by kernel_rfl)
theorem law_wFnExactDbOk (hp : ∀ (x0 : GCatalog) (_ : okGCatalog x0) (x1 : GDb) (_ : okGDb x1), wFnExactDbOk x0 x1 = some true) (ls : List (List D)) (hw : WtA Try.prog [64, 67] ls) (hok : ∀ l ∈ ls, ∀ x ∈ l, OkD x) : ACalls Try.prog 8 (argsV Try.prog [64, 67] ls) [] fun x _ => x = .d (.b true) := by
  rcases hw with _ | ⟨h0, hw⟩
  rcases hw with _ | ⟨h1, hw⟩
  cases hw
  obtain ⟨x0, rfl⟩ := de64 h0
  obtain ⟨x1, rfl⟩ := de67 h1
  have a0 : argV Try.prog 64 (cGCatalog x0) = (vGCatalog x0) := by kernel_rfl
  have a1 : argV Try.prog 67 (cGDb x1) = (vGDb x1) := by kernel_rfl
  have k0 : ∀ d ∈ cGCatalog x0, OkD d := hok _ (by simp)
  have k1 : ∀ d ∈ cGDb x1, OkD d := hok _ (by simp)
  simp only [argsV, a0, a1]
  exact OK_wFnExactDbOk x0 x1 true (hp x0 (koGCatalog x0 k0) x1 (koGDb x1 k1))
end Go.Proofs.Ytlohdmekmmjjlaa
