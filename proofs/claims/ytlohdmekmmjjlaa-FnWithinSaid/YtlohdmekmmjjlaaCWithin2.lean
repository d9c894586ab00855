/- That the code computes these functions (printed by a program). -/
import Derived.Test.YtlohdmekmmjjlaaCWithin1
namespace Go.Proofs.Ytlohdmekmmjjlaa
open Go Go.RowKit Go.Ab
theorem OKs_sL1New_L0 (p0 : (List Int)) : (∀ (x3 : Int) (x4 : Int) (r : GL1Cur), sL1New_L0 p0 x3 x4 = some r → avc Try.prog acsL1New_L0 (qsL1New_1 r) (stsL1New_L0 p0 x3 x4)) := by
  refine sL1New_L0.partial_correctness p0 (fun x3 x4 r => avc Try.prog acsL1New_L0 (qsL1New_1 r) (stsL1New_L0 p0 x3 x4)) ?_
  · intro F_sL1New_L0 OK_sL1New_L0 x3 x4 r h
    delta acsL1New_L0
    refine loop_unroll ?_
    refine seq_in ?_
    refine seq_in ?_
    refine ops_in ?_
    refine sts_ok 2 (s' := ⟨(9, (.d (.sl 1 (p0.map cU8)))) :: (8, (.d (.i .i64 x4))) :: (stsL1New_L0 p0 x3 x4).env, (stsL1New_L0 p0 x3 x4).bx⟩) (by kernel_rfl) ?_
    refine p_step (v' := (.d (.i .i64 (p0.length : Int)))) rfl rfl (vop_len (sz := 1) (l := p0) (f := cU8) (by kernel_rfl) (by kernel_rfl)) ?_
    refine sts_ok 2 (s' := ⟨(12, (.d (.b (decide (x4 < (p0.length : Int)))))) :: (11, (.d (.b (decide (x4 < (p0.length : Int)))))) :: (10, (.d (.i .i64 (p0.length : Int)))) :: (9, (.d (.sl 1 (p0.map cU8)))) :: (8, (.d (.i .i64 x4))) :: (stsL1New_L0 p0 x3 x4).env, (stsL1New_L0 p0 x3 x4).bx⟩) (by kernel_rfl) ?_
    refine gp_step (p := true) (b := (decide (x4 < (p0.length : Int)))) (v' := (.d (.i .i64 x4))) (by kernel_rfl) rfl rfl (fun hc => vop_val1 (by kernel_rfl) (by kernel_rfl)) ?_
    refine gp_step (p := true) (b := (decide (x4 < (p0.length : Int)))) (v' := (.d (.b (decide (x4 < 4000))))) (by kernel_rfl) rfl rfl (fun hc => vop_val1 (Eq.trans (b := ([(true && ((decide (x4 < (p0.length : Int))) == true))] : List Bool).all id) (by kernel_rfl) (all_c hc rfl)) (by kernel_rfl)) ?_
    refine p_step (v' := (.d (.b (if (decide (x4 < (p0.length : Int))) = true then (decide (x4 < 4000)) else false)))) rfl rfl (vop_pick (b := (decide (x4 < (p0.length : Int)))) (p := (true && ((decide (x4 < (p0.length : Int))) == true))) (u := (decide (x4 < 4000))) (q := true) (v := false) (by kernel_rfl) (by kernel_rfl) (by kernel_rfl) (by kernel_rfl) (fun hb => gc_t rfl hb) (fun _ => rfl)) ?_
    refine nil_in ?_
    refine next_in ?_
    refine cond_step h (by kernel_rfl) ?_ ?_
    · clear h; intro h
      refine skip_in ?_
      refine next_in ?_
      refine seq_in ?_
      refine block_in ?_
      refine ops_in ?_
      refine sts_ok 4 (s' := ⟨(21, (.d (.i .i64 x4))) :: (20, (.d (.sl 1 (p0.map cU8)))) :: (19, (.d (.i .i64 (IntKind.wrap .i64 (x3 * 131))))) :: (18, (.d (.i .i64 x3))) :: (15, (.d (.b (if (decide (x4 < (p0.length : Int))) = true then (decide (x4 < 4000)) else false)))) :: (14, (.ite (true && ((decide (x4 < (p0.length : Int))) == true)) (.d (.b (decide (x4 < 4000)))))) :: (13, (.ite (true && ((decide (x4 < (p0.length : Int))) == true)) (.d (.i .i64 x4)))) :: (12, (.d (.b (decide (x4 < (p0.length : Int)))))) :: (11, (.d (.b (decide (x4 < (p0.length : Int)))))) :: (10, (.d (.i .i64 (p0.length : Int)))) :: (9, (.d (.sl 1 (p0.map cU8)))) :: (8, (.d (.i .i64 x4))) :: (stsL1New_L0 p0 x3 x4).env, (stsL1New_L0 p0 x3 x4).bx⟩) (by kernel_rfl) ?_
      refine v_step (m := idx p0 x4) (v' := fun y => (.rp [(.i .u8 y)])) h rfl rfl (fun y hy => vop_ia (l := p0) (f := cU8) (g := cU8) (k := .i64) hy (fun _ => rfl) (by kernel_rfl) (by kernel_rfl) (by kernel_rfl)) ?_
      clear h; intro y1 h
      refine sts_ok 6 (s' := ⟨(3, (.d (.i .i64 (IntKind.wrap .i64 ((BitVec.ofInt (IntKind.bits .i64) (IntKind.wrap .i64 ((IntKind.wrap .i64 ((IntKind.wrap .i64 (x3 * 131)) + (IntKind.wrap .i64 y1))) + 7)) &&& BitVec.ofInt (IntKind.bits .i64) 1073741823).toNat : Int))))) :: (27, (.d (.i .i64 (IntKind.wrap .i64 ((BitVec.ofInt (IntKind.bits .i64) (IntKind.wrap .i64 ((IntKind.wrap .i64 ((IntKind.wrap .i64 (x3 * 131)) + (IntKind.wrap .i64 y1))) + 7)) &&& BitVec.ofInt (IntKind.bits .i64) 1073741823).toNat : Int))))) :: (26, (.d (.i .i64 (IntKind.wrap .i64 ((IntKind.wrap .i64 ((IntKind.wrap .i64 (x3 * 131)) + (IntKind.wrap .i64 y1))) + 7))))) :: (25, (.d (.i .i64 (IntKind.wrap .i64 ((IntKind.wrap .i64 (x3 * 131)) + (IntKind.wrap .i64 y1)))))) :: (24, (.d (.i .i64 (IntKind.wrap .i64 y1)))) :: (23, (.d (.i .u8 y1))) :: (22, (.rp [(.i .u8 y1)])) :: (21, (.d (.i .i64 x4))) :: (20, (.d (.sl 1 (p0.map cU8)))) :: (19, (.d (.i .i64 (IntKind.wrap .i64 (x3 * 131))))) :: (18, (.d (.i .i64 x3))) :: (15, (.d (.b (if (decide (x4 < (p0.length : Int))) = true then (decide (x4 < 4000)) else false)))) :: (14, (.ite (true && ((decide (x4 < (p0.length : Int))) == true)) (.d (.b (decide (x4 < 4000)))))) :: (13, (.ite (true && ((decide (x4 < (p0.length : Int))) == true)) (.d (.i .i64 x4)))) :: (12, (.d (.b (decide (x4 < (p0.length : Int)))))) :: (11, (.d (.b (decide (x4 < (p0.length : Int)))))) :: (10, (.d (.i .i64 (p0.length : Int)))) :: (9, (.d (.sl 1 (p0.map cU8)))) :: (8, (.d (.i .i64 x4))) :: (stsL1New_L0 p0 x3 x4).env, (stsL1New_L0 p0 x3 x4).bx⟩) (by kernel_rfl) ?_
      refine nil_in ?_
      refine blockK_norm ?_
      refine next_in ?_
      refine ops_in ?_
      refine sts_ok 3 (s' := ⟨(4, (.d (.i .i64 (IntKind.wrap .i64 (x4 + 1))))) :: (17, (.d (.i .i64 (IntKind.wrap .i64 (x4 + 1))))) :: (16, (.d (.i .i64 x4))) :: (3, (.d (.i .i64 (IntKind.wrap .i64 ((BitVec.ofInt (IntKind.bits .i64) (IntKind.wrap .i64 ((IntKind.wrap .i64 ((IntKind.wrap .i64 (x3 * 131)) + (IntKind.wrap .i64 y1))) + 7)) &&& BitVec.ofInt (IntKind.bits .i64) 1073741823).toNat : Int))))) :: (27, (.d (.i .i64 (IntKind.wrap .i64 ((BitVec.ofInt (IntKind.bits .i64) (IntKind.wrap .i64 ((IntKind.wrap .i64 ((IntKind.wrap .i64 (x3 * 131)) + (IntKind.wrap .i64 y1))) + 7)) &&& BitVec.ofInt (IntKind.bits .i64) 1073741823).toNat : Int))))) :: (26, (.d (.i .i64 (IntKind.wrap .i64 ((IntKind.wrap .i64 ((IntKind.wrap .i64 (x3 * 131)) + (IntKind.wrap .i64 y1))) + 7))))) :: (25, (.d (.i .i64 (IntKind.wrap .i64 ((IntKind.wrap .i64 (x3 * 131)) + (IntKind.wrap .i64 y1)))))) :: (24, (.d (.i .i64 (IntKind.wrap .i64 y1)))) :: (23, (.d (.i .u8 y1))) :: (22, (.rp [(.i .u8 y1)])) :: (21, (.d (.i .i64 x4))) :: (20, (.d (.sl 1 (p0.map cU8)))) :: (19, (.d (.i .i64 (IntKind.wrap .i64 (x3 * 131))))) :: (18, (.d (.i .i64 x3))) :: (15, (.d (.b (if (decide (x4 < (p0.length : Int))) = true then (decide (x4 < 4000)) else false)))) :: (14, (.ite (true && ((decide (x4 < (p0.length : Int))) == true)) (.d (.b (decide (x4 < 4000)))))) :: (13, (.ite (true && ((decide (x4 < (p0.length : Int))) == true)) (.d (.i .i64 x4)))) :: (12, (.d (.b (decide (x4 < (p0.length : Int)))))) :: (11, (.d (.b (decide (x4 < (p0.length : Int)))))) :: (10, (.d (.i .i64 (p0.length : Int)))) :: (9, (.d (.sl 1 (p0.map cU8)))) :: (8, (.d (.i .i64 x4))) :: (stsL1New_L0 p0 x3 x4).env, (stsL1New_L0 p0 x3 x4).bx⟩) (by kernel_rfl) ?_
      refine nil_in ?_
      exact loop_back (s' := stsL1New_L0 p0 (IntKind.wrap .i64 ((BitVec.ofInt (IntKind.bits .i64) (IntKind.wrap .i64 ((IntKind.wrap .i64 ((IntKind.wrap .i64 (x3 * 131)) + (IntKind.wrap .i64 y1))) + 7)) &&& BitVec.ofInt (IntKind.bits .i64) 1073741823).toNat : Int)) (IntKind.wrap .i64 (x4 + 1))) (wk_ren [] (by kernel_rfl) (er_cons (vr_same (by kernel_rfl) (by kernel_rfl)) (er_cons (vr_same (by kernel_rfl) (by kernel_rfl)) (er_cons (vr_same (by kernel_rfl) (by kernel_rfl)) (er_nil)))) (br_nil)) (OK_sL1New_L0 (IntKind.wrap .i64 ((BitVec.ofInt (IntKind.bits .i64) (IntKind.wrap .i64 ((IntKind.wrap .i64 ((IntKind.wrap .i64 (x3 * 131)) + (IntKind.wrap .i64 y1))) + 7)) &&& BitVec.ofInt (IntKind.bits .i64) 1073741823).toNat : Int)) (IntKind.wrap .i64 (x4 + 1)) _ h)
    · clear h; intro h
      refine exit_in ?_
      refine thenK_exit ?_
      refine thenK_exit ?_
      refine blockK_here ?_
      refine next_in ?_
      refine seq_in ?_
      refine ops_in ?_
      refine sts_ok 5 (s' := ⟨(2, (.ptr 31 0)) :: (31, (.ptr 31 0)) :: (30, (vGL1Cur (GL1Cur.mk p0 0 x3))) :: (29, (.d (.i .i64 x3))) :: (28, (.d (.sl 1 (p0.map cU8)))) :: (15, (.d (.b (if (decide (x4 < (p0.length : Int))) = true then (decide (x4 < 4000)) else false)))) :: (14, (.ite (true && ((decide (x4 < (p0.length : Int))) == true)) (.d (.b (decide (x4 < 4000)))))) :: (13, (.ite (true && ((decide (x4 < (p0.length : Int))) == true)) (.d (.i .i64 x4)))) :: (12, (.d (.b (decide (x4 < (p0.length : Int)))))) :: (11, (.d (.b (decide (x4 < (p0.length : Int)))))) :: (10, (.d (.i .i64 (p0.length : Int)))) :: (9, (.d (.sl 1 (p0.map cU8)))) :: (8, (.d (.i .i64 x4))) :: (stsL1New_L0 p0 x3 x4).env, [(31, bGL1Cur (GL1Cur.mk p0 0 x3))]⟩) (by kernel_rfl) ?_
      refine nil_in ?_
      refine next_in ?_
      refine ret_in ?_
      have h := Option.some.inj h; subst h
      exact ret1_step (v := (.ptr 31 0)) (by kernel_rfl) (by kernel_rfl) ⟨by kernel_rfl, by kernel_rfl, trivial⟩
theorem OK_sL1New_L0 (p0 : (List Int)) (x3 : Int) (x4 : Int) (r : GL1Cur) (h : sL1New_L0 p0 x3 x4 = some r) : avc Try.prog acsL1New_L0 (qsL1New_1 r) (stsL1New_L0 p0 x3 x4) := (OKs_sL1New_L0 p0) x3 x4 r h
theorem OK_sL1New (p0 : (List Int)) : FOkB Try.prog 75 [(.d (.sl 1 (p0.map cU8)))] [] (fun (y : GL1Cur) => (.ptr 31 0)) (fun (y : GL1Cur) => [(31, bGL1Cur y)]) (sL1New p0) := by
  intro r h
  rw [sL1New] at h
  refine acalls_of_fn trsL1New (Nat.le_of_ble_eq_true rfl) (by simp) ?_
  show avc Try.prog acsL1New (qsL1New _) ⟨[(0, (.d (.sl 1 (p0.map cU8))))], []⟩
  delta acsL1New
  refine seq_in ?_
  refine ops_in ?_
  refine sts_ok 1 (s' := ⟨[(2, .np), (0, (.d (.sl 1 (p0.map cU8))))], []⟩) (by kernel_rfl) ?_
  refine nil_in ?_
  refine next_in ?_
  refine seq_in ?_
  refine ops_in ?_
  refine sts_ok 1 (s' := ⟨[(5, (.d (.sl 1 (p0.map cU8)))), (2, .np), (0, (.d (.sl 1 (p0.map cU8))))], []⟩) (by kernel_rfl) ?_
  refine p_step (v' := (.d (.i .i64 (p0.length : Int)))) rfl rfl (vop_len (sz := 1) (l := p0) (f := cU8) (by kernel_rfl) (by kernel_rfl)) ?_
  refine sts_ok 2 (s' := ⟨[(3, (.d (.i .i64 (IntKind.wrap .i64 (28322 + (p0.length : Int)))))), (7, (.d (.i .i64 (IntKind.wrap .i64 (28322 + (p0.length : Int)))))), (6, (.d (.i .i64 (p0.length : Int)))), (5, (.d (.sl 1 (p0.map cU8)))), (2, .np), (0, (.d (.sl 1 (p0.map cU8))))], []⟩) (by kernel_rfl) ?_
  refine nil_in ?_
  refine next_in ?_
  refine seq_in ?_
  refine seq_in ?_
  refine ops_in ?_
  refine sts_ok 1 (s' := ⟨[(4, (.d (.i .i64 0))), (3, (.d (.i .i64 (IntKind.wrap .i64 (28322 + (p0.length : Int)))))), (7, (.d (.i .i64 (IntKind.wrap .i64 (28322 + (p0.length : Int)))))), (6, (.d (.i .i64 (p0.length : Int)))), (5, (.d (.sl 1 (p0.map cU8)))), (2, .np), (0, (.d (.sl 1 (p0.map cU8))))], []⟩) (by kernel_rfl) ?_
  refine nil_in ?_
  refine next_in ?_
  refine block_in ?_
  exact loop_go (s' := stsL1New_L0 p0 (IntKind.wrap .i64 (28322 + (p0.length : Int))) 0) (wk_ren [] (by kernel_rfl) (er_cons (vr_same (by kernel_rfl) (by kernel_rfl)) (er_cons (vr_same (by kernel_rfl) (by kernel_rfl)) (er_cons (vr_same (by kernel_rfl) (by kernel_rfl)) (er_nil)))) (br_nil)) (OK_sL1New_L0 p0 (IntKind.wrap .i64 (28322 + (p0.length : Int))) 0 _ h)
theorem OK_sDrawWithin (p0 : (List Int)) : FOkB Try.prog 55 [(.d (.sl 1 (p0.map cU8)))] [] (fun (y : GValue × (List GValue)) => (.tup [(vGValue y.1), (.osl 2000001 25 3 (y.2.map cGValue))])) (fun (y : GValue × (List GValue)) => []) (sDrawWithin p0) := by
  intro r h
  rw [sDrawWithin] at h
  refine acalls_of_fn trsDrawWithin (Nat.le_of_ble_eq_true rfl) (by simp) ?_
  show avc Try.prog acsDrawWithin (qsDrawWithin _) ⟨[(0, (.d (.sl 1 (p0.map cU8))))], []⟩
  delta acsDrawWithin
  refine seq_in ?_
  refine ops_in ?_
  refine sts_ok 2 (s' := ⟨[(3, (.nil 3)), (2, (.ptr 2 0)), (0, (.d (.sl 1 (p0.map cU8))))], [(2, [(.d (.i .i64 0)), (.d (.i .i64 0)), (.d (.s (bs [])))])]⟩) (by kernel_rfl) ?_
  refine nil_in ?_
  refine next_in ?_
  refine seq_in ?_
  refine ops_in ?_
  refine sts_ok 1 (s' := ⟨[(9, (.d (.sl 1 (p0.map cU8)))), (3, (.nil 3)), (2, (.ptr 2 0)), (0, (.d (.sl 1 (p0.map cU8))))], [(2, [(.d (.i .i64 0)), (.d (.i .i64 0)), (.d (.s (bs [])))])]⟩) (by kernel_rfl) ?_
  refine callg_step ⟨[], [], [], [], [], [], [(31, 10)], []⟩ (m := sL1New p0) (S' := fun (y : GL1Cur) => ⟨[(10, (.ptr 10 0)), (9, (.d (.sl 1 (p0.map cU8)))), (3, (.nil 3)), (2, (.ptr 2 0)), (0, (.d (.sl 1 (p0.map cU8))))], [(10, bGL1Cur y), (2, [(.d (.i .i64 0)), (.d (.i .i64 0)), (.d (.s (bs [])))])]⟩) h (OK_sL1New p0) (by kernel_rfl) (by kernel_rfl) (by kernel_rfl) (by kernel_rfl) (fun y => by kernel_rfl) (fun y => by kernel_rfl) ?_
  clear h; intro y1 h
  refine sts_ok 1 (s' := ⟨[(4, (.ptr 10 0)), (10, (.ptr 10 0)), (9, (.d (.sl 1 (p0.map cU8)))), (3, (.nil 3)), (2, (.ptr 2 0)), (0, (.d (.sl 1 (p0.map cU8))))], [(10, bGL1Cur y1), (2, [(.d (.i .i64 0)), (.d (.i .i64 0)), (.d (.s (bs [])))])]⟩) (by kernel_rfl) ?_
  refine nil_in ?_
  refine next_in ?_
  refine seq_in ?_
  refine ops_in ?_
  refine sts_ok 1 (s' := ⟨[(11, (.ptr 10 0)), (4, (.ptr 10 0)), (10, (.ptr 10 0)), (9, (.d (.sl 1 (p0.map cU8)))), (3, (.nil 3)), (2, (.ptr 2 0)), (0, (.d (.sl 1 (p0.map cU8))))], [(10, bGL1Cur y1), (2, [(.d (.i .i64 0)), (.d (.i .i64 0)), (.d (.s (bs [])))])]⟩) (by kernel_rfl) ?_
  refine callg_step ⟨[(1000000, 10)], [], [], [], [], [], [], []⟩ (m := sL1Below y1 3) (S' := fun (y : Int × GL1Cur) => ⟨[(12, (.d (.i .i64 y.1))), (11, (.ptr 10 0)), (4, (.ptr 10 0)), (10, (.ptr 10 0)), (9, (.d (.sl 1 (p0.map cU8)))), (3, (.nil 3)), (2, (.ptr 2 0)), (0, (.d (.sl 1 (p0.map cU8))))], [(10, bGL1Cur y.2), (2, [(.d (.i .i64 0)), (.d (.i .i64 0)), (.d (.s (bs [])))])]⟩) h (OK_sL1Below y1 3) (by kernel_rfl) (by kernel_rfl) (by kernel_rfl) (by kernel_rfl) (fun y => by kernel_rfl) (fun y => by kernel_rfl) ?_
  clear h; intro y2 h
  refine sts_ok 2 (s' := ⟨[(5, (.d (.i .i64 (IntKind.wrap .i64 (1 + y2.1))))), (13, (.d (.i .i64 (IntKind.wrap .i64 (1 + y2.1))))), (12, (.d (.i .i64 y2.1))), (11, (.ptr 10 0)), (4, (.ptr 10 0)), (10, (.ptr 10 0)), (9, (.d (.sl 1 (p0.map cU8)))), (3, (.nil 3)), (2, (.ptr 2 0)), (0, (.d (.sl 1 (p0.map cU8))))], [(10, bGL1Cur y2.2), (2, [(.d (.i .i64 0)), (.d (.i .i64 0)), (.d (.s (bs [])))])]⟩) (by kernel_rfl) ?_
  refine nil_in ?_
  refine next_in ?_
  refine seq_in ?_
  refine ops_in ?_
  refine bsl_step (l := ([] : List GValue)) (f := cGValue) (g := cGValue) (by kernel_rfl) (fun _ => rfl) (by kernel_rfl) ?_
  refine sts_ok 1 (s' := ⟨[(6, (.osl 6 25 3 (([] : List GValue).map cGValue))), (14, (.d (.sl 3 (([] : List GValue).map cGValue)))), (5, (.d (.i .i64 (IntKind.wrap .i64 (1 + y2.1))))), (13, (.d (.i .i64 (IntKind.wrap .i64 (1 + y2.1))))), (12, (.d (.i .i64 y2.1))), (11, (.ptr 10 0)), (4, (.ptr 10 0)), (10, (.ptr 10 0)), (9, (.d (.sl 1 (p0.map cU8)))), (3, (.nil 3)), (2, (.ptr 2 0)), (0, (.d (.sl 1 (p0.map cU8))))], [(10, bGL1Cur y2.2), (2, [(.d (.i .i64 0)), (.d (.i .i64 0)), (.d (.s (bs [])))])]⟩) (by kernel_rfl) ?_
  refine nil_in ?_
  refine next_in ?_
  refine seq_in ?_
  refine ops_in ?_
  refine sts_ok 1 (s' := ⟨[(15, (.ptr 10 0)), (6, (.osl 6 25 3 (([] : List GValue).map cGValue))), (14, (.d (.sl 3 (([] : List GValue).map cGValue)))), (5, (.d (.i .i64 (IntKind.wrap .i64 (1 + y2.1))))), (13, (.d (.i .i64 (IntKind.wrap .i64 (1 + y2.1))))), (12, (.d (.i .i64 y2.1))), (11, (.ptr 10 0)), (4, (.ptr 10 0)), (10, (.ptr 10 0)), (9, (.d (.sl 1 (p0.map cU8)))), (3, (.nil 3)), (2, (.ptr 2 0)), (0, (.d (.sl 1 (p0.map cU8))))], [(10, bGL1Cur y2.2), (2, [(.d (.i .i64 0)), (.d (.i .i64 0)), (.d (.s (bs [])))])]⟩) (by kernel_rfl) ?_
  refine callg_step ⟨[(1000000, 10)], [], [], [], [], [], [], []⟩ (m := sL1Below y2.2 5) (S' := fun (y : Int × GL1Cur) => ⟨[(16, (.d (.i .i64 y.1))), (15, (.ptr 10 0)), (6, (.osl 6 25 3 (([] : List GValue).map cGValue))), (14, (.d (.sl 3 (([] : List GValue).map cGValue)))), (5, (.d (.i .i64 (IntKind.wrap .i64 (1 + y2.1))))), (13, (.d (.i .i64 (IntKind.wrap .i64 (1 + y2.1))))), (12, (.d (.i .i64 y2.1))), (11, (.ptr 10 0)), (4, (.ptr 10 0)), (10, (.ptr 10 0)), (9, (.d (.sl 1 (p0.map cU8)))), (3, (.nil 3)), (2, (.ptr 2 0)), (0, (.d (.sl 1 (p0.map cU8))))], [(10, bGL1Cur y.2), (2, [(.d (.i .i64 0)), (.d (.i .i64 0)), (.d (.s (bs [])))])]⟩) h (OK_sL1Below y2.2 5) (by kernel_rfl) (by kernel_rfl) (by kernel_rfl) (by kernel_rfl) (fun y => by kernel_rfl) (fun y => by kernel_rfl) ?_
  clear h; intro y3 h
  refine sts_ok 1 (s' := ⟨[(7, (.d (.i .i64 y3.1))), (16, (.d (.i .i64 y3.1))), (15, (.ptr 10 0)), (6, (.osl 6 25 3 (([] : List GValue).map cGValue))), (14, (.d (.sl 3 (([] : List GValue).map cGValue)))), (5, (.d (.i .i64 (IntKind.wrap .i64 (1 + y2.1))))), (13, (.d (.i .i64 (IntKind.wrap .i64 (1 + y2.1))))), (12, (.d (.i .i64 y2.1))), (11, (.ptr 10 0)), (4, (.ptr 10 0)), (10, (.ptr 10 0)), (9, (.d (.sl 1 (p0.map cU8)))), (3, (.nil 3)), (2, (.ptr 2 0)), (0, (.d (.sl 1 (p0.map cU8))))], [(10, bGL1Cur y3.2), (2, [(.d (.i .i64 0)), (.d (.i .i64 0)), (.d (.s (bs [])))])]⟩) (by kernel_rfl) ?_
  refine nil_in ?_
  refine next_in ?_
  refine seq_in ?_
  refine seq_in ?_
  refine ops_in ?_
  refine sts_ok 1 (s' := ⟨[(8, (.d (.i .i64 0))), (7, (.d (.i .i64 y3.1))), (16, (.d (.i .i64 y3.1))), (15, (.ptr 10 0)), (6, (.osl 6 25 3 (([] : List GValue).map cGValue))), (14, (.d (.sl 3 (([] : List GValue).map cGValue)))), (5, (.d (.i .i64 (IntKind.wrap .i64 (1 + y2.1))))), (13, (.d (.i .i64 (IntKind.wrap .i64 (1 + y2.1))))), (12, (.d (.i .i64 y2.1))), (11, (.ptr 10 0)), (4, (.ptr 10 0)), (10, (.ptr 10 0)), (9, (.d (.sl 1 (p0.map cU8)))), (3, (.nil 3)), (2, (.ptr 2 0)), (0, (.d (.sl 1 (p0.map cU8))))], [(10, bGL1Cur y3.2), (2, [(.d (.i .i64 0)), (.d (.i .i64 0)), (.d (.s (bs [])))])]⟩) (by kernel_rfl) ?_
  refine nil_in ?_
  refine next_in ?_
  refine block_in ?_
  exact loop_go (s' := stsDrawWithin_L0 y2 y3 ([] : List GValue) 0 y3.2.b y3.2.i y3.2.h) (wk_ren [(6, .old 6)] (by kernel_rfl) (er_cons (vr_same (by kernel_rfl) (by kernel_rfl)) (er_cons (vr_same (by kernel_rfl) (by kernel_rfl)) (er_cons (vr_same (by kernel_rfl) (by kernel_rfl)) (er_cons (vr_old (t := 6) (by kernel_rfl) (by kernel_rfl)) (er_cons (vr_same (by kernel_rfl) (by kernel_rfl)) (er_cons (vr_same (by kernel_rfl) (by kernel_rfl)) (er_nil))))))) (br_same (by kernel_rfl) (by kernel_rfl) (br_same (by kernel_rfl) (by kernel_rfl) (br_nil)))) (OK_sDrawWithin_L0 y2 y3 ([] : List GValue) 0 y3.2.b y3.2.i y3.2.h _ h)
theorem OK_sAddNum (p0 : Int) (p1 : Int) : FOk Try.prog 127 [(.d (.i .i64 p0)), (.d (.i .i64 p1))] (fun y => (.tup [(.d (.i .i64 y.1)), (.d (.b y.2))])) (sAddNum p0 p1) := by
  intro r h
  rw [sAddNum] at h
  refine acalls_of_fn trsAddNum (Nat.le_of_ble_eq_true rfl) (by simp) ?_
  show avc Try.prog acsAddNum (qsAddNum _) ⟨[(0, (.d (.i .i64 p0))), (1, (.d (.i .i64 p1)))], []⟩
  delta acsAddNum
  refine seq_in ?_
  refine ops_in ?_
  refine sts_ok 2 (s' := ⟨[(5, (.d (.b false))), (4, (.d (.i .i64 0))), (0, (.d (.i .i64 p0))), (1, (.d (.i .i64 p1)))], []⟩) (by kernel_rfl) ?_
  refine nil_in ?_
  refine next_in ?_
  refine seq_in ?_
  refine seq_in ?_
  refine ops_in ?_
  refine sts_ok 3 (s' := ⟨[(8, (.d (.b (decide (0 < p1))))), (7, (.d (.b (decide (0 < p1))))), (6, (.d (.i .i64 p1))), (5, (.d (.b false))), (4, (.d (.i .i64 0))), (0, (.d (.i .i64 p0))), (1, (.d (.i .i64 p1)))], []⟩) (by kernel_rfl) ?_
  refine gp_step (p := true) (b := (decide (0 < p1))) (v' := (.d (.i .i64 p0))) (by kernel_rfl) rfl rfl (fun hc => vop_val1 (by kernel_rfl) (by kernel_rfl)) ?_
  refine gp_step (p := true) (b := (decide (0 < p1))) (v' := (.d (.i .i64 p1))) (by kernel_rfl) rfl rfl (fun hc => vop_val1 (by kernel_rfl) (by kernel_rfl)) ?_
  refine gp_step (p := true) (b := (decide (0 < p1))) (v' := (.d (.i .i64 (IntKind.wrap .i64 (9223372036854775807 - p1))))) (by kernel_rfl) rfl rfl (fun hc => vop_val1 (Eq.trans (b := ([(true && ((decide (0 < p1)) == true))] : List Bool).all id) (by kernel_rfl) (all_c hc rfl)) (by kernel_rfl)) ?_
  refine gp_step (p := true) (b := (decide (0 < p1))) (v' := (.d (.b (decide ((IntKind.wrap .i64 (9223372036854775807 - p1)) < p0))))) (by kernel_rfl) rfl rfl (fun hc => vop_val1 (Eq.trans (b := ([(true && ((decide (0 < p1)) == true)), (true && ((decide (0 < p1)) == true))] : List Bool).all id) (by kernel_rfl) (all_c hc (all_c hc rfl))) (by kernel_rfl)) ?_
  refine p_step (v' := (.d (.b (if (decide (0 < p1)) = true then (decide ((IntKind.wrap .i64 (9223372036854775807 - p1)) < p0)) else false)))) rfl rfl (vop_pick (b := (decide (0 < p1))) (p := (true && ((decide (0 < p1)) == true))) (u := (decide ((IntKind.wrap .i64 (9223372036854775807 - p1)) < p0))) (q := true) (v := false) (by kernel_rfl) (by kernel_rfl) (by kernel_rfl) (by kernel_rfl) (fun hb => gc_t rfl hb) (fun _ => rfl)) ?_
  refine sts_ok 1 (s' := ⟨[(14, (.d (.b (if (decide (0 < p1)) = true then (decide ((IntKind.wrap .i64 (9223372036854775807 - p1)) < p0)) else false)))), (13, (.d (.b (if (decide (0 < p1)) = true then (decide ((IntKind.wrap .i64 (9223372036854775807 - p1)) < p0)) else false)))), (12, (.ite (true && ((decide (0 < p1)) == true)) (.d (.b (decide ((IntKind.wrap .i64 (9223372036854775807 - p1)) < p0)))))), (11, (.ite (true && ((decide (0 < p1)) == true)) (.d (.i .i64 (IntKind.wrap .i64 (9223372036854775807 - p1)))))), (10, (.ite (true && ((decide (0 < p1)) == true)) (.d (.i .i64 p1)))), (9, (.ite (true && ((decide (0 < p1)) == true)) (.d (.i .i64 p0)))), (8, (.d (.b (decide (0 < p1))))), (7, (.d (.b (decide (0 < p1))))), (6, (.d (.i .i64 p1))), (5, (.d (.b false))), (4, (.d (.i .i64 0))), (0, (.d (.i .i64 p0))), (1, (.d (.i .i64 p1)))], []⟩) (by kernel_rfl) ?_
  refine gp_step (p := true) (b := (if (decide (0 < p1)) = true then (decide ((IntKind.wrap .i64 (9223372036854775807 - p1)) < p0)) else false)) (v' := (.d (.i .i64 p1))) (by kernel_rfl) rfl rfl (fun hc => vop_val1 (by kernel_rfl) (by kernel_rfl)) ?_
  refine gp_step (p := true) (b := (if (decide (0 < p1)) = true then (decide ((IntKind.wrap .i64 (9223372036854775807 - p1)) < p0)) else false)) (v' := (.d (.b (decide (p1 < 0))))) (by kernel_rfl) rfl rfl (fun hc => vop_val1 (Eq.trans (b := ([(true && ((if (decide (0 < p1)) = true then (decide ((IntKind.wrap .i64 (9223372036854775807 - p1)) < p0)) else false) == false))] : List Bool).all id) (by kernel_rfl) (all_c hc rfl)) (by kernel_rfl)) ?_
  refine gp_step (p := true) (b := (if (decide (0 < p1)) = true then (decide ((IntKind.wrap .i64 (9223372036854775807 - p1)) < p0)) else false)) (v' := (.d (.b (decide (p1 < 0))))) (by kernel_rfl) rfl rfl (fun hc => vop_val1 (Eq.trans (b := ([(true && ((if (decide (0 < p1)) = true then (decide ((IntKind.wrap .i64 (9223372036854775807 - p1)) < p0)) else false) == false))] : List Bool).all id) (by kernel_rfl) (all_c hc rfl)) (by kernel_rfl)) ?_
  refine gp_step (p := (true && ((if (decide (0 < p1)) = true then (decide ((IntKind.wrap .i64 (9223372036854775807 - p1)) < p0)) else false) == false))) (b := (decide (p1 < 0))) (v' := (.d (.i .i64 p0))) (by kernel_rfl) rfl rfl (fun hc => vop_val1 (by kernel_rfl) (by kernel_rfl)) ?_
  refine gp_step (p := (true && ((if (decide (0 < p1)) = true then (decide ((IntKind.wrap .i64 (9223372036854775807 - p1)) < p0)) else false) == false))) (b := (decide (p1 < 0))) (v' := (.d (.i .i64 p1))) (by kernel_rfl) rfl rfl (fun hc => vop_val1 (by kernel_rfl) (by kernel_rfl)) ?_
  refine gp_step (p := (true && ((if (decide (0 < p1)) = true then (decide ((IntKind.wrap .i64 (9223372036854775807 - p1)) < p0)) else false) == false))) (b := (decide (p1 < 0))) (v' := (.d (.i .i64 (IntKind.wrap .i64 ((-9223372036854775808) - p1))))) (by kernel_rfl) rfl rfl (fun hc => vop_val1 (Eq.trans (b := ([((true && ((if (decide (0 < p1)) = true then (decide ((IntKind.wrap .i64 (9223372036854775807 - p1)) < p0)) else false) == false)) && ((decide (p1 < 0)) == true))] : List Bool).all id) (by kernel_rfl) (all_c hc rfl)) (by kernel_rfl)) ?_
  refine gp_step (p := (true && ((if (decide (0 < p1)) = true then (decide ((IntKind.wrap .i64 (9223372036854775807 - p1)) < p0)) else false) == false))) (b := (decide (p1 < 0))) (v' := (.d (.b (decide (p0 < (IntKind.wrap .i64 ((-9223372036854775808) - p1))))))) (by kernel_rfl) rfl rfl (fun hc => vop_val1 (Eq.trans (b := ([((true && ((if (decide (0 < p1)) = true then (decide ((IntKind.wrap .i64 (9223372036854775807 - p1)) < p0)) else false) == false)) && ((decide (p1 < 0)) == true)), ((true && ((if (decide (0 < p1)) = true then (decide ((IntKind.wrap .i64 (9223372036854775807 - p1)) < p0)) else false) == false)) && ((decide (p1 < 0)) == true))] : List Bool).all id) (by kernel_rfl) (all_c hc (all_c hc rfl))) (by kernel_rfl)) ?_
  refine gp_step (p := true) (b := (if (decide (0 < p1)) = true then (decide ((IntKind.wrap .i64 (9223372036854775807 - p1)) < p0)) else false)) (v' := (.d (.b (if (decide (p1 < 0)) = true then (decide (p0 < (IntKind.wrap .i64 ((-9223372036854775808) - p1)))) else false)))) (by kernel_rfl) rfl rfl (fun hc => vop_pick (b := (decide (p1 < 0))) (p := ((true && ((if (decide (0 < p1)) = true then (decide ((IntKind.wrap .i64 (9223372036854775807 - p1)) < p0)) else false) == false)) && ((decide (p1 < 0)) == true))) (u := (decide (p0 < (IntKind.wrap .i64 ((-9223372036854775808) - p1))))) (q := true) (v := false) (Eq.trans (b := ([(true && ((if (decide (0 < p1)) = true then (decide ((IntKind.wrap .i64 (9223372036854775807 - p1)) < p0)) else false) == false))] : List Bool).all id) (by kernel_rfl) (all_c hc rfl)) (by kernel_rfl) (by kernel_rfl) (by kernel_rfl) (fun hb => gc_t hc hb) (fun _ => rfl)) ?_
  refine p_step (v' := (.d (.b (if (if (decide (0 < p1)) = true then (decide ((IntKind.wrap .i64 (9223372036854775807 - p1)) < p0)) else false) = true then true else (if (decide (p1 < 0)) = true then (decide (p0 < (IntKind.wrap .i64 ((-9223372036854775808) - p1)))) else false))))) rfl rfl (vop_pick (b := (if (decide (0 < p1)) = true then (decide ((IntKind.wrap .i64 (9223372036854775807 - p1)) < p0)) else false)) (p := true) (u := true) (q := (true && ((if (decide (0 < p1)) = true then (decide ((IntKind.wrap .i64 (9223372036854775807 - p1)) < p0)) else false) == false))) (v := (if (decide (p1 < 0)) = true then (decide (p0 < (IntKind.wrap .i64 ((-9223372036854775808) - p1)))) else false)) (by kernel_rfl) (by kernel_rfl) (by kernel_rfl) (by kernel_rfl) (fun _ => rfl) (fun hb => gc_f rfl hb)) ?_
  refine nil_in ?_
  refine next_in ?_
  refine cond_step h (by kernel_rfl) ?_ ?_
  · clear h; intro h
    refine seq_in ?_
    refine ops_in ?_
    refine sts_ok 2 (s' := ⟨[(5, (.d (.b false))), (4, (.d (.i .i64 0))), (23, (.d (.b (if (if (decide (0 < p1)) = true then (decide ((IntKind.wrap .i64 (9223372036854775807 - p1)) < p0)) else false) = true then true else (if (decide (p1 < 0)) = true then (decide (p0 < (IntKind.wrap .i64 ((-9223372036854775808) - p1)))) else false))))), (22, (.ite (true && ((if (decide (0 < p1)) = true then (decide ((IntKind.wrap .i64 (9223372036854775807 - p1)) < p0)) else false) == false)) (.d (.b (if (decide (p1 < 0)) = true then (decide (p0 < (IntKind.wrap .i64 ((-9223372036854775808) - p1)))) else false))))), (21, (.ite ((true && ((if (decide (0 < p1)) = true then (decide ((IntKind.wrap .i64 (9223372036854775807 - p1)) < p0)) else false) == false)) && ((decide (p1 < 0)) == true)) (.d (.b (decide (p0 < (IntKind.wrap .i64 ((-9223372036854775808) - p1)))))))), (20, (.ite ((true && ((if (decide (0 < p1)) = true then (decide ((IntKind.wrap .i64 (9223372036854775807 - p1)) < p0)) else false) == false)) && ((decide (p1 < 0)) == true)) (.d (.i .i64 (IntKind.wrap .i64 ((-9223372036854775808) - p1)))))), (19, (.ite ((true && ((if (decide (0 < p1)) = true then (decide ((IntKind.wrap .i64 (9223372036854775807 - p1)) < p0)) else false) == false)) && ((decide (p1 < 0)) == true)) (.d (.i .i64 p1)))), (18, (.ite ((true && ((if (decide (0 < p1)) = true then (decide ((IntKind.wrap .i64 (9223372036854775807 - p1)) < p0)) else false) == false)) && ((decide (p1 < 0)) == true)) (.d (.i .i64 p0)))), (17, (.ite (true && ((if (decide (0 < p1)) = true then (decide ((IntKind.wrap .i64 (9223372036854775807 - p1)) < p0)) else false) == false)) (.d (.b (decide (p1 < 0)))))), (16, (.ite (true && ((if (decide (0 < p1)) = true then (decide ((IntKind.wrap .i64 (9223372036854775807 - p1)) < p0)) else false) == false)) (.d (.b (decide (p1 < 0)))))), (15, (.ite (true && ((if (decide (0 < p1)) = true then (decide ((IntKind.wrap .i64 (9223372036854775807 - p1)) < p0)) else false) == false)) (.d (.i .i64 p1)))), (14, (.d (.b (if (decide (0 < p1)) = true then (decide ((IntKind.wrap .i64 (9223372036854775807 - p1)) < p0)) else false)))), (13, (.d (.b (if (decide (0 < p1)) = true then (decide ((IntKind.wrap .i64 (9223372036854775807 - p1)) < p0)) else false)))), (12, (.ite (true && ((decide (0 < p1)) == true)) (.d (.b (decide ((IntKind.wrap .i64 (9223372036854775807 - p1)) < p0)))))), (11, (.ite (true && ((decide (0 < p1)) == true)) (.d (.i .i64 (IntKind.wrap .i64 (9223372036854775807 - p1)))))), (10, (.ite (true && ((decide (0 < p1)) == true)) (.d (.i .i64 p1)))), (9, (.ite (true && ((decide (0 < p1)) == true)) (.d (.i .i64 p0)))), (8, (.d (.b (decide (0 < p1))))), (7, (.d (.b (decide (0 < p1))))), (6, (.d (.i .i64 p1))), (5, (.d (.b false))), (4, (.d (.i .i64 0))), (0, (.d (.i .i64 p0))), (1, (.d (.i .i64 p1)))], []⟩) (by kernel_rfl) ?_
    refine nil_in ?_
    refine next_in ?_
    refine ret_in ?_
    refine thenK_ret ?_
    have h := Option.some.inj h; subst h
    exact retn_step (vs := [(.d (.i .i64 0)), (.d (.b false))]) (by kernel_rfl) (by kernel_rfl)
  · clear h; intro h
    refine skip_in ?_
    refine next_in ?_
    refine seq_in ?_
    refine ops_in ?_
    refine sts_ok 5 (s' := ⟨[(5, (.d (.b true))), (4, (.d (.i .i64 (IntKind.wrap .i64 (p0 + p1))))), (26, (.d (.i .i64 (IntKind.wrap .i64 (p0 + p1))))), (25, (.d (.i .i64 p1))), (24, (.d (.i .i64 p0))), (23, (.d (.b (if (if (decide (0 < p1)) = true then (decide ((IntKind.wrap .i64 (9223372036854775807 - p1)) < p0)) else false) = true then true else (if (decide (p1 < 0)) = true then (decide (p0 < (IntKind.wrap .i64 ((-9223372036854775808) - p1)))) else false))))), (22, (.ite (true && ((if (decide (0 < p1)) = true then (decide ((IntKind.wrap .i64 (9223372036854775807 - p1)) < p0)) else false) == false)) (.d (.b (if (decide (p1 < 0)) = true then (decide (p0 < (IntKind.wrap .i64 ((-9223372036854775808) - p1)))) else false))))), (21, (.ite ((true && ((if (decide (0 < p1)) = true then (decide ((IntKind.wrap .i64 (9223372036854775807 - p1)) < p0)) else false) == false)) && ((decide (p1 < 0)) == true)) (.d (.b (decide (p0 < (IntKind.wrap .i64 ((-9223372036854775808) - p1)))))))), (20, (.ite ((true && ((if (decide (0 < p1)) = true then (decide ((IntKind.wrap .i64 (9223372036854775807 - p1)) < p0)) else false) == false)) && ((decide (p1 < 0)) == true)) (.d (.i .i64 (IntKind.wrap .i64 ((-9223372036854775808) - p1)))))), (19, (.ite ((true && ((if (decide (0 < p1)) = true then (decide ((IntKind.wrap .i64 (9223372036854775807 - p1)) < p0)) else false) == false)) && ((decide (p1 < 0)) == true)) (.d (.i .i64 p1)))), (18, (.ite ((true && ((if (decide (0 < p1)) = true then (decide ((IntKind.wrap .i64 (9223372036854775807 - p1)) < p0)) else false) == false)) && ((decide (p1 < 0)) == true)) (.d (.i .i64 p0)))), (17, (.ite (true && ((if (decide (0 < p1)) = true then (decide ((IntKind.wrap .i64 (9223372036854775807 - p1)) < p0)) else false) == false)) (.d (.b (decide (p1 < 0)))))), (16, (.ite (true && ((if (decide (0 < p1)) = true then (decide ((IntKind.wrap .i64 (9223372036854775807 - p1)) < p0)) else false) == false)) (.d (.b (decide (p1 < 0)))))), (15, (.ite (true && ((if (decide (0 < p1)) = true then (decide ((IntKind.wrap .i64 (9223372036854775807 - p1)) < p0)) else false) == false)) (.d (.i .i64 p1)))), (14, (.d (.b (if (decide (0 < p1)) = true then (decide ((IntKind.wrap .i64 (9223372036854775807 - p1)) < p0)) else false)))), (13, (.d (.b (if (decide (0 < p1)) = true then (decide ((IntKind.wrap .i64 (9223372036854775807 - p1)) < p0)) else false)))), (12, (.ite (true && ((decide (0 < p1)) == true)) (.d (.b (decide ((IntKind.wrap .i64 (9223372036854775807 - p1)) < p0)))))), (11, (.ite (true && ((decide (0 < p1)) == true)) (.d (.i .i64 (IntKind.wrap .i64 (9223372036854775807 - p1)))))), (10, (.ite (true && ((decide (0 < p1)) == true)) (.d (.i .i64 p1)))), (9, (.ite (true && ((decide (0 < p1)) == true)) (.d (.i .i64 p0)))), (8, (.d (.b (decide (0 < p1))))), (7, (.d (.b (decide (0 < p1))))), (6, (.d (.i .i64 p1))), (5, (.d (.b false))), (4, (.d (.i .i64 0))), (0, (.d (.i .i64 p0))), (1, (.d (.i .i64 p1)))], []⟩) (by kernel_rfl) ?_
    refine nil_in ?_
    refine next_in ?_
    refine ret_in ?_
    have h := Option.some.inj h; subst h
    exact retn_step (vs := [(.d (.i .i64 (IntKind.wrap .i64 (p0 + p1)))), (.d (.b true))]) (by kernel_rfl) (by kernel_rfl)
theorem OK_sL6Compare (p0 : Int) (p1 : Int) : FOk Try.prog 132 [(.d (.i .i64 p0)), (.d (.i .i64 p1))] (fun y => (.d (.b y))) (sL6Compare p0 p1) := by
  intro r h
  rw [sL6Compare] at h
  refine acalls_of_fn trsL6Compare (Nat.le_of_ble_eq_true rfl) (by simp) ?_
  show avc Try.prog acsL6Compare (qsL6Compare _) ⟨[(0, (.d (.i .i64 p0))), (1, (.d (.i .i64 p1)))], []⟩
  delta acsL6Compare
  refine seq_in ?_
  refine ops_in ?_
  refine sts_ok 1 (s' := ⟨[(4, (.d (.b false))), (0, (.d (.i .i64 p0))), (1, (.d (.i .i64 p1)))], []⟩) (by kernel_rfl) ?_
  refine nil_in ?_
  refine next_in ?_
  refine seq_in ?_
  refine seq_in ?_
  refine ops_in ?_
  refine sts_ok 1 (s' := ⟨[(5, (.d (.i .i64 p0))), (4, (.d (.b false))), (0, (.d (.i .i64 p0))), (1, (.d (.i .i64 p1)))], []⟩) (by kernel_rfl) ?_
  refine nil_in ?_
  refine next_in ?_
  refine block_in ?_
  refine seq_in ?_
  refine ops_in ?_
  refine sts_ok 2 (s' := ⟨[(6, (.d (.b (decide (p0 = 3))))), (7, (.d (.b (decide (p0 = 3))))), (5, (.d (.i .i64 p0))), (4, (.d (.b false))), (0, (.d (.i .i64 p0))), (1, (.d (.i .i64 p1)))], []⟩) (by kernel_rfl) ?_
  refine nil_in ?_
  refine next_in ?_
  refine cond_step h (by kernel_rfl) ?_ ?_
  · clear h; intro h
    refine seq_in ?_
    refine ops_in ?_
    refine sts_ok 3 (s' := ⟨[(4, (.d (.b (decide (p1 = 0))))), (9, (.d (.b (decide (p1 = 0))))), (8, (.d (.i .i64 p1))), (6, (.d (.b (decide (p0 = 3))))), (7, (.d (.b (decide (p0 = 3))))), (5, (.d (.i .i64 p0))), (4, (.d (.b false))), (0, (.d (.i .i64 p0))), (1, (.d (.i .i64 p1)))], []⟩) (by kernel_rfl) ?_
    refine nil_in ?_
    refine next_in ?_
    refine ret_in ?_
    refine blockK_ret ?_
    refine thenK_ret ?_
    have h := Option.some.inj h; subst h
    exact ret1_step (v := (.d (.b (decide (p1 = 0))))) (by kernel_rfl) (by kernel_rfl) (by kernel_rfl)
  · clear h; intro h
    refine seq_in ?_
    refine ops_in ?_
    refine sts_ok 2 (s' := ⟨[(10, (.d (.b (decide (p0 = 4))))), (11, (.d (.b (decide (p0 = 4))))), (6, (.d (.b (decide (p0 = 3))))), (7, (.d (.b (decide (p0 = 3))))), (5, (.d (.i .i64 p0))), (4, (.d (.b false))), (0, (.d (.i .i64 p0))), (1, (.d (.i .i64 p1)))], []⟩) (by kernel_rfl) ?_
    refine nil_in ?_
    refine next_in ?_
    refine cond_step h (by kernel_rfl) ?_ ?_
    · clear h; intro h
      refine seq_in ?_
      refine ops_in ?_
      refine sts_ok 3 (s' := ⟨[(4, (.d (.b (!decide (p1 = 0))))), (13, (.d (.b (!decide (p1 = 0))))), (12, (.d (.i .i64 p1))), (10, (.d (.b (decide (p0 = 4))))), (11, (.d (.b (decide (p0 = 4))))), (6, (.d (.b (decide (p0 = 3))))), (7, (.d (.b (decide (p0 = 3))))), (5, (.d (.i .i64 p0))), (4, (.d (.b false))), (0, (.d (.i .i64 p0))), (1, (.d (.i .i64 p1)))], []⟩) (by kernel_rfl) ?_
      refine nil_in ?_
      refine next_in ?_
      refine ret_in ?_
      refine blockK_ret ?_
      refine thenK_ret ?_
      have h := Option.some.inj h; subst h
      exact ret1_step (v := (.d (.b (!decide (p1 = 0))))) (by kernel_rfl) (by kernel_rfl) (by kernel_rfl)
    · clear h; intro h
      refine seq_in ?_
      refine ops_in ?_
      refine sts_ok 2 (s' := ⟨[(14, (.d (.b (decide (p0 = 5))))), (15, (.d (.b (decide (p0 = 5))))), (10, (.d (.b (decide (p0 = 4))))), (11, (.d (.b (decide (p0 = 4))))), (6, (.d (.b (decide (p0 = 3))))), (7, (.d (.b (decide (p0 = 3))))), (5, (.d (.i .i64 p0))), (4, (.d (.b false))), (0, (.d (.i .i64 p0))), (1, (.d (.i .i64 p1)))], []⟩) (by kernel_rfl) ?_
      refine nil_in ?_
      refine next_in ?_
      refine cond_step h (by kernel_rfl) ?_ ?_
      · clear h; intro h
        refine seq_in ?_
        refine ops_in ?_
        refine sts_ok 3 (s' := ⟨[(4, (.d (.b (decide (p1 < 0))))), (17, (.d (.b (decide (p1 < 0))))), (16, (.d (.i .i64 p1))), (14, (.d (.b (decide (p0 = 5))))), (15, (.d (.b (decide (p0 = 5))))), (10, (.d (.b (decide (p0 = 4))))), (11, (.d (.b (decide (p0 = 4))))), (6, (.d (.b (decide (p0 = 3))))), (7, (.d (.b (decide (p0 = 3))))), (5, (.d (.i .i64 p0))), (4, (.d (.b false))), (0, (.d (.i .i64 p0))), (1, (.d (.i .i64 p1)))], []⟩) (by kernel_rfl) ?_
        refine nil_in ?_
        refine next_in ?_
        refine ret_in ?_
        refine blockK_ret ?_
        refine thenK_ret ?_
        have h := Option.some.inj h; subst h
        exact ret1_step (v := (.d (.b (decide (p1 < 0))))) (by kernel_rfl) (by kernel_rfl) (by kernel_rfl)
      · clear h; intro h
        refine seq_in ?_
        refine ops_in ?_
        refine sts_ok 2 (s' := ⟨[(18, (.d (.b (decide (p0 = 6))))), (19, (.d (.b (decide (p0 = 6))))), (14, (.d (.b (decide (p0 = 5))))), (15, (.d (.b (decide (p0 = 5))))), (10, (.d (.b (decide (p0 = 4))))), (11, (.d (.b (decide (p0 = 4))))), (6, (.d (.b (decide (p0 = 3))))), (7, (.d (.b (decide (p0 = 3))))), (5, (.d (.i .i64 p0))), (4, (.d (.b false))), (0, (.d (.i .i64 p0))), (1, (.d (.i .i64 p1)))], []⟩) (by kernel_rfl) ?_
        refine nil_in ?_
        refine next_in ?_
        refine cond_step h (by kernel_rfl) ?_ ?_
        · clear h; intro h
          refine seq_in ?_
          refine ops_in ?_
          refine sts_ok 3 (s' := ⟨[(4, (.d (.b (decide (p1 ≤ 0))))), (21, (.d (.b (decide (p1 ≤ 0))))), (20, (.d (.i .i64 p1))), (18, (.d (.b (decide (p0 = 6))))), (19, (.d (.b (decide (p0 = 6))))), (14, (.d (.b (decide (p0 = 5))))), (15, (.d (.b (decide (p0 = 5))))), (10, (.d (.b (decide (p0 = 4))))), (11, (.d (.b (decide (p0 = 4))))), (6, (.d (.b (decide (p0 = 3))))), (7, (.d (.b (decide (p0 = 3))))), (5, (.d (.i .i64 p0))), (4, (.d (.b false))), (0, (.d (.i .i64 p0))), (1, (.d (.i .i64 p1)))], []⟩) (by kernel_rfl) ?_
          refine nil_in ?_
          refine next_in ?_
          refine ret_in ?_
          refine blockK_ret ?_
          refine thenK_ret ?_
          have h := Option.some.inj h; subst h
          exact ret1_step (v := (.d (.b (decide (p1 ≤ 0))))) (by kernel_rfl) (by kernel_rfl) (by kernel_rfl)
        · clear h; intro h
          refine seq_in ?_
          refine ops_in ?_
          refine sts_ok 2 (s' := ⟨[(22, (.d (.b (decide (p0 = 7))))), (23, (.d (.b (decide (p0 = 7))))), (18, (.d (.b (decide (p0 = 6))))), (19, (.d (.b (decide (p0 = 6))))), (14, (.d (.b (decide (p0 = 5))))), (15, (.d (.b (decide (p0 = 5))))), (10, (.d (.b (decide (p0 = 4))))), (11, (.d (.b (decide (p0 = 4))))), (6, (.d (.b (decide (p0 = 3))))), (7, (.d (.b (decide (p0 = 3))))), (5, (.d (.i .i64 p0))), (4, (.d (.b false))), (0, (.d (.i .i64 p0))), (1, (.d (.i .i64 p1)))], []⟩) (by kernel_rfl) ?_
          refine nil_in ?_
          refine next_in ?_
          refine cond_step h (by kernel_rfl) ?_ ?_
          · clear h; intro h
            refine seq_in ?_
            refine ops_in ?_
            refine sts_ok 3 (s' := ⟨[(4, (.d (.b (decide (0 < p1))))), (25, (.d (.b (decide (0 < p1))))), (24, (.d (.i .i64 p1))), (22, (.d (.b (decide (p0 = 7))))), (23, (.d (.b (decide (p0 = 7))))), (18, (.d (.b (decide (p0 = 6))))), (19, (.d (.b (decide (p0 = 6))))), (14, (.d (.b (decide (p0 = 5))))), (15, (.d (.b (decide (p0 = 5))))), (10, (.d (.b (decide (p0 = 4))))), (11, (.d (.b (decide (p0 = 4))))), (6, (.d (.b (decide (p0 = 3))))), (7, (.d (.b (decide (p0 = 3))))), (5, (.d (.i .i64 p0))), (4, (.d (.b false))), (0, (.d (.i .i64 p0))), (1, (.d (.i .i64 p1)))], []⟩) (by kernel_rfl) ?_
            refine nil_in ?_
            refine next_in ?_
            refine ret_in ?_
            refine blockK_ret ?_
            refine thenK_ret ?_
            have h := Option.some.inj h; subst h
            exact ret1_step (v := (.d (.b (decide (0 < p1))))) (by kernel_rfl) (by kernel_rfl) (by kernel_rfl)
          · clear h; intro h
            refine skip_in ?_
            refine blockK_norm ?_
            refine next_in ?_
            refine seq_in ?_
            refine ops_in ?_
            refine sts_ok 3 (s' := ⟨[(4, (.d (.b (decide (0 ≤ p1))))), (27, (.d (.b (decide (0 ≤ p1))))), (26, (.d (.i .i64 p1))), (22, (.d (.b (decide (p0 = 7))))), (23, (.d (.b (decide (p0 = 7))))), (18, (.d (.b (decide (p0 = 6))))), (19, (.d (.b (decide (p0 = 6))))), (14, (.d (.b (decide (p0 = 5))))), (15, (.d (.b (decide (p0 = 5))))), (10, (.d (.b (decide (p0 = 4))))), (11, (.d (.b (decide (p0 = 4))))), (6, (.d (.b (decide (p0 = 3))))), (7, (.d (.b (decide (p0 = 3))))), (5, (.d (.i .i64 p0))), (4, (.d (.b false))), (0, (.d (.i .i64 p0))), (1, (.d (.i .i64 p1)))], []⟩) (by kernel_rfl) ?_
            refine nil_in ?_
            refine next_in ?_
            refine ret_in ?_
            have h := Option.some.inj h; subst h
            exact ret1_step (v := (.d (.b (decide (0 ≤ p1))))) (by kernel_rfl) (by kernel_rfl) (by kernel_rfl)
theorem OK_sL6Num (p0 : Int) (p1 : Bool) : FOk Try.prog 128 [(.d (.i .i64 p0)), (.d (.b p1))] (fun y => (.tup [(vGValue y.1), (.d (.i .i64 y.2))])) (sL6Num p0 p1) := by
  intro r h
  rw [sL6Num] at h
  refine acalls_of_fn trsL6Num (Nat.le_of_ble_eq_true rfl) (by simp) ?_
  show avc Try.prog acsL6Num (qsL6Num _) ⟨[(0, (.d (.i .i64 p0))), (1, (.d (.b p1)))], []⟩
  delta acsL6Num
  refine seq_in ?_
  refine ops_in ?_
  refine sts_ok 2 (s' := ⟨[(5, (.d (.i .i64 0))), (4, (.ptr 4 0)), (0, (.d (.i .i64 p0))), (1, (.d (.b p1)))], [(4, [(.d (.i .i64 0)), (.d (.i .i64 0)), (.d (.s (bs [])))])]⟩) (by kernel_rfl) ?_
  refine nil_in ?_
  refine next_in ?_
  refine seq_in ?_
  refine seq_in ?_
  refine ops_in ?_
  refine sts_ok 2 (s' := ⟨[(7, (.d (.b (!p1)))), (6, (.d (.b p1))), (5, (.d (.i .i64 0))), (4, (.ptr 4 0)), (0, (.d (.i .i64 p0))), (1, (.d (.b p1)))], [(4, [(.d (.i .i64 0)), (.d (.i .i64 0)), (.d (.s (bs [])))])]⟩) (by kernel_rfl) ?_
  refine nil_in ?_
  refine next_in ?_
  refine cond_step h (by kernel_rfl) ?_ ?_
  · clear h; intro h
    refine seq_in ?_
    refine ops_in ?_
    refine sts_ok 3 (s' := ⟨[(5, (.d (.i .i64 2))), (8, (vGValue (GValue.mk 0 0 []))), (7, (.d (.b (!p1)))), (6, (.d (.b p1))), (5, (.d (.i .i64 0))), (4, (.ptr 4 0)), (0, (.d (.i .i64 p0))), (1, (.d (.b p1)))], [(4, [(.d (.i .i64 0)), (.d (.i .i64 0)), (.d (.s (bs [])))])]⟩) (by kernel_rfl) ?_
    refine nil_in ?_
    refine next_in ?_
    refine ret_in ?_
    refine thenK_ret ?_
    have h := Option.some.inj h; subst h
    exact retn_step (vs := [(vGValue (GValue.mk 0 0 [])), (.d (.i .i64 2))]) (by kernel_rfl) (by kernel_rfl)
  · clear h; intro h
    refine skip_in ?_
    refine next_in ?_
    refine seq_in ?_
    refine ops_in ?_
    refine sts_ok 1 (s' := ⟨[(9, (.d (.i .i64 p0))), (7, (.d (.b (!p1)))), (6, (.d (.b p1))), (5, (.d (.i .i64 0))), (4, (.ptr 4 0)), (0, (.d (.i .i64 p0))), (1, (.d (.b p1)))], [(4, [(.d (.i .i64 0)), (.d (.i .i64 0)), (.d (.s (bs [])))])]⟩) (by kernel_rfl) ?_
    refine call_step (m := sIntValue p0) (args := [(.d (.i .i64 p0))]) (v' := (fun y => (vGValue y))) h (OK_sIntValue p0) (by kernel_rfl) (by kernel_rfl) (fun _ => rfl) ?_
    clear h; intro y1 h
    refine sts_ok 2 (s' := ⟨[(5, (.d (.i .i64 0))), (10, (vGValue y1)), (9, (.d (.i .i64 p0))), (7, (.d (.b (!p1)))), (6, (.d (.b p1))), (5, (.d (.i .i64 0))), (4, (.ptr 4 0)), (0, (.d (.i .i64 p0))), (1, (.d (.b p1)))], [(4, [(.d (.i .i64 y1.kind)), (.d (.i .i64 y1.num)), (.d (.s (bs y1.text)))])]⟩) (by kernel_rfl) ?_
    refine nil_in ?_
    refine next_in ?_
    refine ret_in ?_
    have h := Option.some.inj h; subst h
    exact retn_step (vs := [(vGValue y1), (.d (.i .i64 0))]) (by kernel_rfl) (by kernel_rfl)
theorem OK_sSubNum (p0 : Int) (p1 : Int) : FOk Try.prog 129 [(.d (.i .i64 p0)), (.d (.i .i64 p1))] (fun y => (.tup [(.d (.i .i64 y.1)), (.d (.b y.2))])) (sSubNum p0 p1) := by
  intro r h
  rw [sSubNum] at h
  refine acalls_of_fn trsSubNum (Nat.le_of_ble_eq_true rfl) (by simp) ?_
  show avc Try.prog acsSubNum (qsSubNum _) ⟨[(0, (.d (.i .i64 p0))), (1, (.d (.i .i64 p1)))], []⟩
  delta acsSubNum
  refine seq_in ?_
  refine ops_in ?_
  refine sts_ok 2 (s' := ⟨[(5, (.d (.b false))), (4, (.d (.i .i64 0))), (0, (.d (.i .i64 p0))), (1, (.d (.i .i64 p1)))], []⟩) (by kernel_rfl) ?_
  refine nil_in ?_
  refine next_in ?_
  refine seq_in ?_
  refine seq_in ?_
  refine ops_in ?_
  refine sts_ok 3 (s' := ⟨[(8, (.d (.b (decide (p1 < 0))))), (7, (.d (.b (decide (p1 < 0))))), (6, (.d (.i .i64 p1))), (5, (.d (.b false))), (4, (.d (.i .i64 0))), (0, (.d (.i .i64 p0))), (1, (.d (.i .i64 p1)))], []⟩) (by kernel_rfl) ?_
  refine gp_step (p := true) (b := (decide (p1 < 0))) (v' := (.d (.i .i64 p0))) (by kernel_rfl) rfl rfl (fun hc => vop_val1 (by kernel_rfl) (by kernel_rfl)) ?_
  refine gp_step (p := true) (b := (decide (p1 < 0))) (v' := (.d (.i .i64 p1))) (by kernel_rfl) rfl rfl (fun hc => vop_val1 (by kernel_rfl) (by kernel_rfl)) ?_
  refine gp_step (p := true) (b := (decide (p1 < 0))) (v' := (.d (.i .i64 (IntKind.wrap .i64 (9223372036854775807 + p1))))) (by kernel_rfl) rfl rfl (fun hc => vop_val1 (Eq.trans (b := ([(true && ((decide (p1 < 0)) == true))] : List Bool).all id) (by kernel_rfl) (all_c hc rfl)) (by kernel_rfl)) ?_
  refine gp_step (p := true) (b := (decide (p1 < 0))) (v' := (.d (.b (decide ((IntKind.wrap .i64 (9223372036854775807 + p1)) < p0))))) (by kernel_rfl) rfl rfl (fun hc => vop_val1 (Eq.trans (b := ([(true && ((decide (p1 < 0)) == true)), (true && ((decide (p1 < 0)) == true))] : List Bool).all id) (by kernel_rfl) (all_c hc (all_c hc rfl))) (by kernel_rfl)) ?_
  refine p_step (v' := (.d (.b (if (decide (p1 < 0)) = true then (decide ((IntKind.wrap .i64 (9223372036854775807 + p1)) < p0)) else false)))) rfl rfl (vop_pick (b := (decide (p1 < 0))) (p := (true && ((decide (p1 < 0)) == true))) (u := (decide ((IntKind.wrap .i64 (9223372036854775807 + p1)) < p0))) (q := true) (v := false) (by kernel_rfl) (by kernel_rfl) (by kernel_rfl) (by kernel_rfl) (fun hb => gc_t rfl hb) (fun _ => rfl)) ?_
  refine sts_ok 1 (s' := ⟨[(14, (.d (.b (if (decide (p1 < 0)) = true then (decide ((IntKind.wrap .i64 (9223372036854775807 + p1)) < p0)) else false)))), (13, (.d (.b (if (decide (p1 < 0)) = true then (decide ((IntKind.wrap .i64 (9223372036854775807 + p1)) < p0)) else false)))), (12, (.ite (true && ((decide (p1 < 0)) == true)) (.d (.b (decide ((IntKind.wrap .i64 (9223372036854775807 + p1)) < p0)))))), (11, (.ite (true && ((decide (p1 < 0)) == true)) (.d (.i .i64 (IntKind.wrap .i64 (9223372036854775807 + p1)))))), (10, (.ite (true && ((decide (p1 < 0)) == true)) (.d (.i .i64 p1)))), (9, (.ite (true && ((decide (p1 < 0)) == true)) (.d (.i .i64 p0)))), (8, (.d (.b (decide (p1 < 0))))), (7, (.d (.b (decide (p1 < 0))))), (6, (.d (.i .i64 p1))), (5, (.d (.b false))), (4, (.d (.i .i64 0))), (0, (.d (.i .i64 p0))), (1, (.d (.i .i64 p1)))], []⟩) (by kernel_rfl) ?_
  refine gp_step (p := true) (b := (if (decide (p1 < 0)) = true then (decide ((IntKind.wrap .i64 (9223372036854775807 + p1)) < p0)) else false)) (v' := (.d (.i .i64 p1))) (by kernel_rfl) rfl rfl (fun hc => vop_val1 (by kernel_rfl) (by kernel_rfl)) ?_
  refine gp_step (p := true) (b := (if (decide (p1 < 0)) = true then (decide ((IntKind.wrap .i64 (9223372036854775807 + p1)) < p0)) else false)) (v' := (.d (.b (decide (0 < p1))))) (by kernel_rfl) rfl rfl (fun hc => vop_val1 (Eq.trans (b := ([(true && ((if (decide (p1 < 0)) = true then (decide ((IntKind.wrap .i64 (9223372036854775807 + p1)) < p0)) else false) == false))] : List Bool).all id) (by kernel_rfl) (all_c hc rfl)) (by kernel_rfl)) ?_
  refine gp_step (p := true) (b := (if (decide (p1 < 0)) = true then (decide ((IntKind.wrap .i64 (9223372036854775807 + p1)) < p0)) else false)) (v' := (.d (.b (decide (0 < p1))))) (by kernel_rfl) rfl rfl (fun hc => vop_val1 (Eq.trans (b := ([(true && ((if (decide (p1 < 0)) = true then (decide ((IntKind.wrap .i64 (9223372036854775807 + p1)) < p0)) else false) == false))] : List Bool).all id) (by kernel_rfl) (all_c hc rfl)) (by kernel_rfl)) ?_
  refine gp_step (p := (true && ((if (decide (p1 < 0)) = true then (decide ((IntKind.wrap .i64 (9223372036854775807 + p1)) < p0)) else false) == false))) (b := (decide (0 < p1))) (v' := (.d (.i .i64 p0))) (by kernel_rfl) rfl rfl (fun hc => vop_val1 (by kernel_rfl) (by kernel_rfl)) ?_
  refine gp_step (p := (true && ((if (decide (p1 < 0)) = true then (decide ((IntKind.wrap .i64 (9223372036854775807 + p1)) < p0)) else false) == false))) (b := (decide (0 < p1))) (v' := (.d (.i .i64 p1))) (by kernel_rfl) rfl rfl (fun hc => vop_val1 (by kernel_rfl) (by kernel_rfl)) ?_
  refine gp_step (p := (true && ((if (decide (p1 < 0)) = true then (decide ((IntKind.wrap .i64 (9223372036854775807 + p1)) < p0)) else false) == false))) (b := (decide (0 < p1))) (v' := (.d (.i .i64 (IntKind.wrap .i64 ((-9223372036854775808) + p1))))) (by kernel_rfl) rfl rfl (fun hc => vop_val1 (Eq.trans (b := ([((true && ((if (decide (p1 < 0)) = true then (decide ((IntKind.wrap .i64 (9223372036854775807 + p1)) < p0)) else false) == false)) && ((decide (0 < p1)) == true))] : List Bool).all id) (by kernel_rfl) (all_c hc rfl)) (by kernel_rfl)) ?_
  refine gp_step (p := (true && ((if (decide (p1 < 0)) = true then (decide ((IntKind.wrap .i64 (9223372036854775807 + p1)) < p0)) else false) == false))) (b := (decide (0 < p1))) (v' := (.d (.b (decide (p0 < (IntKind.wrap .i64 ((-9223372036854775808) + p1))))))) (by kernel_rfl) rfl rfl (fun hc => vop_val1 (Eq.trans (b := ([((true && ((if (decide (p1 < 0)) = true then (decide ((IntKind.wrap .i64 (9223372036854775807 + p1)) < p0)) else false) == false)) && ((decide (0 < p1)) == true)), ((true && ((if (decide (p1 < 0)) = true then (decide ((IntKind.wrap .i64 (9223372036854775807 + p1)) < p0)) else false) == false)) && ((decide (0 < p1)) == true))] : List Bool).all id) (by kernel_rfl) (all_c hc (all_c hc rfl))) (by kernel_rfl)) ?_
  refine gp_step (p := true) (b := (if (decide (p1 < 0)) = true then (decide ((IntKind.wrap .i64 (9223372036854775807 + p1)) < p0)) else false)) (v' := (.d (.b (if (decide (0 < p1)) = true then (decide (p0 < (IntKind.wrap .i64 ((-9223372036854775808) + p1)))) else false)))) (by kernel_rfl) rfl rfl (fun hc => vop_pick (b := (decide (0 < p1))) (p := ((true && ((if (decide (p1 < 0)) = true then (decide ((IntKind.wrap .i64 (9223372036854775807 + p1)) < p0)) else false) == false)) && ((decide (0 < p1)) == true))) (u := (decide (p0 < (IntKind.wrap .i64 ((-9223372036854775808) + p1))))) (q := true) (v := false) (Eq.trans (b := ([(true && ((if (decide (p1 < 0)) = true then (decide ((IntKind.wrap .i64 (9223372036854775807 + p1)) < p0)) else false) == false))] : List Bool).all id) (by kernel_rfl) (all_c hc rfl)) (by kernel_rfl) (by kernel_rfl) (by kernel_rfl) (fun hb => gc_t hc hb) (fun _ => rfl)) ?_
  refine p_step (v' := (.d (.b (if (if (decide (p1 < 0)) = true then (decide ((IntKind.wrap .i64 (9223372036854775807 + p1)) < p0)) else false) = true then true else (if (decide (0 < p1)) = true then (decide (p0 < (IntKind.wrap .i64 ((-9223372036854775808) + p1)))) else false))))) rfl rfl (vop_pick (b := (if (decide (p1 < 0)) = true then (decide ((IntKind.wrap .i64 (9223372036854775807 + p1)) < p0)) else false)) (p := true) (u := true) (q := (true && ((if (decide (p1 < 0)) = true then (decide ((IntKind.wrap .i64 (9223372036854775807 + p1)) < p0)) else false) == false))) (v := (if (decide (0 < p1)) = true then (decide (p0 < (IntKind.wrap .i64 ((-9223372036854775808) + p1)))) else false)) (by kernel_rfl) (by kernel_rfl) (by kernel_rfl) (by kernel_rfl) (fun _ => rfl) (fun hb => gc_f rfl hb)) ?_
  refine nil_in ?_
  refine next_in ?_
  refine cond_step h (by kernel_rfl) ?_ ?_
  · clear h; intro h
    refine seq_in ?_
    refine ops_in ?_
    refine sts_ok 2 (s' := ⟨[(5, (.d (.b false))), (4, (.d (.i .i64 0))), (23, (.d (.b (if (if (decide (p1 < 0)) = true then (decide ((IntKind.wrap .i64 (9223372036854775807 + p1)) < p0)) else false) = true then true else (if (decide (0 < p1)) = true then (decide (p0 < (IntKind.wrap .i64 ((-9223372036854775808) + p1)))) else false))))), (22, (.ite (true && ((if (decide (p1 < 0)) = true then (decide ((IntKind.wrap .i64 (9223372036854775807 + p1)) < p0)) else false) == false)) (.d (.b (if (decide (0 < p1)) = true then (decide (p0 < (IntKind.wrap .i64 ((-9223372036854775808) + p1)))) else false))))), (21, (.ite ((true && ((if (decide (p1 < 0)) = true then (decide ((IntKind.wrap .i64 (9223372036854775807 + p1)) < p0)) else false) == false)) && ((decide (0 < p1)) == true)) (.d (.b (decide (p0 < (IntKind.wrap .i64 ((-9223372036854775808) + p1)))))))), (20, (.ite ((true && ((if (decide (p1 < 0)) = true then (decide ((IntKind.wrap .i64 (9223372036854775807 + p1)) < p0)) else false) == false)) && ((decide (0 < p1)) == true)) (.d (.i .i64 (IntKind.wrap .i64 ((-9223372036854775808) + p1)))))), (19, (.ite ((true && ((if (decide (p1 < 0)) = true then (decide ((IntKind.wrap .i64 (9223372036854775807 + p1)) < p0)) else false) == false)) && ((decide (0 < p1)) == true)) (.d (.i .i64 p1)))), (18, (.ite ((true && ((if (decide (p1 < 0)) = true then (decide ((IntKind.wrap .i64 (9223372036854775807 + p1)) < p0)) else false) == false)) && ((decide (0 < p1)) == true)) (.d (.i .i64 p0)))), (17, (.ite (true && ((if (decide (p1 < 0)) = true then (decide ((IntKind.wrap .i64 (9223372036854775807 + p1)) < p0)) else false) == false)) (.d (.b (decide (0 < p1)))))), (16, (.ite (true && ((if (decide (p1 < 0)) = true then (decide ((IntKind.wrap .i64 (9223372036854775807 + p1)) < p0)) else false) == false)) (.d (.b (decide (0 < p1)))))), (15, (.ite (true && ((if (decide (p1 < 0)) = true then (decide ((IntKind.wrap .i64 (9223372036854775807 + p1)) < p0)) else false) == false)) (.d (.i .i64 p1)))), (14, (.d (.b (if (decide (p1 < 0)) = true then (decide ((IntKind.wrap .i64 (9223372036854775807 + p1)) < p0)) else false)))), (13, (.d (.b (if (decide (p1 < 0)) = true then (decide ((IntKind.wrap .i64 (9223372036854775807 + p1)) < p0)) else false)))), (12, (.ite (true && ((decide (p1 < 0)) == true)) (.d (.b (decide ((IntKind.wrap .i64 (9223372036854775807 + p1)) < p0)))))), (11, (.ite (true && ((decide (p1 < 0)) == true)) (.d (.i .i64 (IntKind.wrap .i64 (9223372036854775807 + p1)))))), (10, (.ite (true && ((decide (p1 < 0)) == true)) (.d (.i .i64 p1)))), (9, (.ite (true && ((decide (p1 < 0)) == true)) (.d (.i .i64 p0)))), (8, (.d (.b (decide (p1 < 0))))), (7, (.d (.b (decide (p1 < 0))))), (6, (.d (.i .i64 p1))), (5, (.d (.b false))), (4, (.d (.i .i64 0))), (0, (.d (.i .i64 p0))), (1, (.d (.i .i64 p1)))], []⟩) (by kernel_rfl) ?_
    refine nil_in ?_
    refine next_in ?_
    refine ret_in ?_
    refine thenK_ret ?_
    have h := Option.some.inj h; subst h
    exact retn_step (vs := [(.d (.i .i64 0)), (.d (.b false))]) (by kernel_rfl) (by kernel_rfl)
  · clear h; intro h
    refine skip_in ?_
    refine next_in ?_
    refine seq_in ?_
    refine ops_in ?_
    refine sts_ok 5 (s' := ⟨[(5, (.d (.b true))), (4, (.d (.i .i64 (IntKind.wrap .i64 (p0 - p1))))), (26, (.d (.i .i64 (IntKind.wrap .i64 (p0 - p1))))), (25, (.d (.i .i64 p1))), (24, (.d (.i .i64 p0))), (23, (.d (.b (if (if (decide (p1 < 0)) = true then (decide ((IntKind.wrap .i64 (9223372036854775807 + p1)) < p0)) else false) = true then true else (if (decide (0 < p1)) = true then (decide (p0 < (IntKind.wrap .i64 ((-9223372036854775808) + p1)))) else false))))), (22, (.ite (true && ((if (decide (p1 < 0)) = true then (decide ((IntKind.wrap .i64 (9223372036854775807 + p1)) < p0)) else false) == false)) (.d (.b (if (decide (0 < p1)) = true then (decide (p0 < (IntKind.wrap .i64 ((-9223372036854775808) + p1)))) else false))))), (21, (.ite ((true && ((if (decide (p1 < 0)) = true then (decide ((IntKind.wrap .i64 (9223372036854775807 + p1)) < p0)) else false) == false)) && ((decide (0 < p1)) == true)) (.d (.b (decide (p0 < (IntKind.wrap .i64 ((-9223372036854775808) + p1)))))))), (20, (.ite ((true && ((if (decide (p1 < 0)) = true then (decide ((IntKind.wrap .i64 (9223372036854775807 + p1)) < p0)) else false) == false)) && ((decide (0 < p1)) == true)) (.d (.i .i64 (IntKind.wrap .i64 ((-9223372036854775808) + p1)))))), (19, (.ite ((true && ((if (decide (p1 < 0)) = true then (decide ((IntKind.wrap .i64 (9223372036854775807 + p1)) < p0)) else false) == false)) && ((decide (0 < p1)) == true)) (.d (.i .i64 p1)))), (18, (.ite ((true && ((if (decide (p1 < 0)) = true then (decide ((IntKind.wrap .i64 (9223372036854775807 + p1)) < p0)) else false) == false)) && ((decide (0 < p1)) == true)) (.d (.i .i64 p0)))), (17, (.ite (true && ((if (decide (p1 < 0)) = true then (decide ((IntKind.wrap .i64 (9223372036854775807 + p1)) < p0)) else false) == false)) (.d (.b (decide (0 < p1)))))), (16, (.ite (true && ((if (decide (p1 < 0)) = true then (decide ((IntKind.wrap .i64 (9223372036854775807 + p1)) < p0)) else false) == false)) (.d (.b (decide (0 < p1)))))), (15, (.ite (true && ((if (decide (p1 < 0)) = true then (decide ((IntKind.wrap .i64 (9223372036854775807 + p1)) < p0)) else false) == false)) (.d (.i .i64 p1)))), (14, (.d (.b (if (decide (p1 < 0)) = true then (decide ((IntKind.wrap .i64 (9223372036854775807 + p1)) < p0)) else false)))), (13, (.d (.b (if (decide (p1 < 0)) = true then (decide ((IntKind.wrap .i64 (9223372036854775807 + p1)) < p0)) else false)))), (12, (.ite (true && ((decide (p1 < 0)) == true)) (.d (.b (decide ((IntKind.wrap .i64 (9223372036854775807 + p1)) < p0)))))), (11, (.ite (true && ((decide (p1 < 0)) == true)) (.d (.i .i64 (IntKind.wrap .i64 (9223372036854775807 + p1)))))), (10, (.ite (true && ((decide (p1 < 0)) == true)) (.d (.i .i64 p1)))), (9, (.ite (true && ((decide (p1 < 0)) == true)) (.d (.i .i64 p0)))), (8, (.d (.b (decide (p1 < 0))))), (7, (.d (.b (decide (p1 < 0))))), (6, (.d (.i .i64 p1))), (5, (.d (.b false))), (4, (.d (.i .i64 0))), (0, (.d (.i .i64 p0))), (1, (.d (.i .i64 p1)))], []⟩) (by kernel_rfl) ?_
    refine nil_in ?_
    refine next_in ?_
    refine ret_in ?_
    have h := Option.some.inj h; subst h
    exact retn_step (vs := [(.d (.i .i64 (IntKind.wrap .i64 (p0 - p1)))), (.d (.b true))]) (by kernel_rfl) (by kernel_rfl)
theorem OK_sL6Divide (p0 : Int) (p1 : Int) (p2 : Int) : FOk Try.prog 131 [(.d (.i .i64 p0)), (.d (.i .i64 p1)), (.d (.i .i64 p2))] (fun y => (.tup [(vGValue y.1), (.d (.i .i64 y.2))])) (sL6Divide p0 p1 p2) := by
  intro r h
  rw [sL6Divide] at h
  refine acalls_of_fn trsL6Divide (Nat.le_of_ble_eq_true rfl) (by simp) ?_
  show avc Try.prog acsL6Divide (qsL6Divide _) ⟨[(0, (.d (.i .i64 p0))), (1, (.d (.i .i64 p1))), (2, (.d (.i .i64 p2)))], []⟩
  delta acsL6Divide
  refine seq_in ?_
  refine ops_in ?_
  refine sts_ok 2 (s' := ⟨[(7, (.d (.i .i64 0))), (6, (.ptr 6 0)), (0, (.d (.i .i64 p0))), (1, (.d (.i .i64 p1))), (2, (.d (.i .i64 p2)))], [(6, [(.d (.i .i64 0)), (.d (.i .i64 0)), (.d (.s (bs [])))])]⟩) (by kernel_rfl) ?_
  refine nil_in ?_
  refine next_in ?_
  refine seq_in ?_
  refine seq_in ?_
  refine ops_in ?_
  refine sts_ok 2 (s' := ⟨[(11, (.d (.b (decide (p2 = 0))))), (10, (.d (.i .i64 p2))), (7, (.d (.i .i64 0))), (6, (.ptr 6 0)), (0, (.d (.i .i64 p0))), (1, (.d (.i .i64 p1))), (2, (.d (.i .i64 p2)))], [(6, [(.d (.i .i64 0)), (.d (.i .i64 0)), (.d (.s (bs [])))])]⟩) (by kernel_rfl) ?_
  refine nil_in ?_
  refine next_in ?_
  refine cond_step h (by kernel_rfl) ?_ ?_
  · clear h; intro h
    refine seq_in ?_
    refine ops_in ?_
    refine sts_ok 3 (s' := ⟨[(7, (.d (.i .i64 3))), (12, (vGValue (GValue.mk 0 0 []))), (11, (.d (.b (decide (p2 = 0))))), (10, (.d (.i .i64 p2))), (7, (.d (.i .i64 0))), (6, (.ptr 6 0)), (0, (.d (.i .i64 p0))), (1, (.d (.i .i64 p1))), (2, (.d (.i .i64 p2)))], [(6, [(.d (.i .i64 0)), (.d (.i .i64 0)), (.d (.s (bs [])))])]⟩) (by kernel_rfl) ?_
    refine nil_in ?_
    refine next_in ?_
    refine ret_in ?_
    refine thenK_ret ?_
    have h := Option.some.inj h; subst h
    exact retn_step (vs := [(vGValue (GValue.mk 0 0 [])), (.d (.i .i64 3))]) (by kernel_rfl) (by kernel_rfl)
  · clear h; intro h
    refine skip_in ?_
    refine next_in ?_
    refine seq_in ?_
    refine seq_in ?_
    refine ops_in ?_
    refine sts_ok 2 (s' := ⟨[(14, (.d (.b (decide (p2 = (-1)))))), (13, (.d (.i .i64 p2))), (11, (.d (.b (decide (p2 = 0))))), (10, (.d (.i .i64 p2))), (7, (.d (.i .i64 0))), (6, (.ptr 6 0)), (0, (.d (.i .i64 p0))), (1, (.d (.i .i64 p1))), (2, (.d (.i .i64 p2)))], [(6, [(.d (.i .i64 0)), (.d (.i .i64 0)), (.d (.s (bs [])))])]⟩) (by kernel_rfl) ?_
    refine nil_in ?_
    refine next_in ?_
    refine cond_step h (by kernel_rfl) ?_ ?_
    · clear h; intro h
      refine seq_in ?_
      refine seq_in ?_
      refine ops_in ?_
      refine sts_ok 2 (s' := ⟨[(16, (.d (.b (decide (p0 = 14))))), (15, (.d (.i .i64 p0))), (14, (.d (.b (decide (p2 = (-1)))))), (13, (.d (.i .i64 p2))), (11, (.d (.b (decide (p2 = 0))))), (10, (.d (.i .i64 p2))), (7, (.d (.i .i64 0))), (6, (.ptr 6 0)), (0, (.d (.i .i64 p0))), (1, (.d (.i .i64 p1))), (2, (.d (.i .i64 p2)))], [(6, [(.d (.i .i64 0)), (.d (.i .i64 0)), (.d (.s (bs [])))])]⟩) (by kernel_rfl) ?_
      refine nil_in ?_
      refine next_in ?_
      refine cond_step h (by kernel_rfl) ?_ ?_
      · clear h; intro h
        refine seq_in ?_
        refine ops_in ?_
        refine call_step (m := sIntValue 0) (args := [(.d (.i .i64 0))]) (v' := (fun y => (vGValue y))) h (OK_sIntValue 0) (by kernel_rfl) (by kernel_rfl) (fun _ => rfl) ?_
        clear h; intro y1 h
        refine sts_ok 2 (s' := ⟨[(7, (.d (.i .i64 0))), (17, (vGValue y1)), (16, (.d (.b (decide (p0 = 14))))), (15, (.d (.i .i64 p0))), (14, (.d (.b (decide (p2 = (-1)))))), (13, (.d (.i .i64 p2))), (11, (.d (.b (decide (p2 = 0))))), (10, (.d (.i .i64 p2))), (7, (.d (.i .i64 0))), (6, (.ptr 6 0)), (0, (.d (.i .i64 p0))), (1, (.d (.i .i64 p1))), (2, (.d (.i .i64 p2)))], [(6, [(.d (.i .i64 y1.kind)), (.d (.i .i64 y1.num)), (.d (.s (bs y1.text)))])]⟩) (by kernel_rfl) ?_
        refine nil_in ?_
        refine next_in ?_
        refine ret_in ?_
        refine thenK_ret ?_
        refine thenK_ret ?_
        have h := Option.some.inj h; subst h
        exact retn_step (vs := [(vGValue y1), (.d (.i .i64 0))]) (by kernel_rfl) (by kernel_rfl)
      · clear h; intro h
        refine skip_in ?_
        refine next_in ?_
        refine seq_in ?_
        refine ops_in ?_
        refine sts_ok 1 (s' := ⟨[(19, (.d (.i .i64 p1))), (16, (.d (.b (decide (p0 = 14))))), (15, (.d (.i .i64 p0))), (14, (.d (.b (decide (p2 = (-1)))))), (13, (.d (.i .i64 p2))), (11, (.d (.b (decide (p2 = 0))))), (10, (.d (.i .i64 p2))), (7, (.d (.i .i64 0))), (6, (.ptr 6 0)), (0, (.d (.i .i64 p0))), (1, (.d (.i .i64 p1))), (2, (.d (.i .i64 p2)))], [(6, [(.d (.i .i64 0)), (.d (.i .i64 0)), (.d (.s (bs [])))])]⟩) (by kernel_rfl) ?_
        refine call_step (m := sSubNum 0 p1) (args := [(.d (.i .i64 0)), (.d (.i .i64 p1))]) (v' := (fun y => (.tup [(.d (.i .i64 y.1)), (.d (.b y.2))]))) h (OK_sSubNum 0 p1) (by kernel_rfl) (by kernel_rfl) (fun _ => rfl) ?_
        clear h; intro y2 h
        refine sts_ok 5 (s' := ⟨[(9, (.d (.b y2.2))), (8, (.d (.i .i64 y2.1))), (22, (.d (.b y2.2))), (21, (.d (.i .i64 y2.1))), (18, (.tup [(.d (.i .i64 y2.1)), (.d (.b y2.2))])), (20, (.tup [(.d (.i .i64 y2.1)), (.d (.b y2.2))])), (19, (.d (.i .i64 p1))), (16, (.d (.b (decide (p0 = 14))))), (15, (.d (.i .i64 p0))), (14, (.d (.b (decide (p2 = (-1)))))), (13, (.d (.i .i64 p2))), (11, (.d (.b (decide (p2 = 0))))), (10, (.d (.i .i64 p2))), (7, (.d (.i .i64 0))), (6, (.ptr 6 0)), (0, (.d (.i .i64 p0))), (1, (.d (.i .i64 p1))), (2, (.d (.i .i64 p2)))], [(6, [(.d (.i .i64 0)), (.d (.i .i64 0)), (.d (.s (bs [])))])]⟩) (by kernel_rfl) ?_
        refine nil_in ?_
        refine next_in ?_
        refine seq_in ?_
        refine ops_in ?_
        refine sts_ok 2 (s' := ⟨[(24, (.d (.b y2.2))), (23, (.d (.i .i64 y2.1))), (9, (.d (.b y2.2))), (8, (.d (.i .i64 y2.1))), (22, (.d (.b y2.2))), (21, (.d (.i .i64 y2.1))), (18, (.tup [(.d (.i .i64 y2.1)), (.d (.b y2.2))])), (20, (.tup [(.d (.i .i64 y2.1)), (.d (.b y2.2))])), (19, (.d (.i .i64 p1))), (16, (.d (.b (decide (p0 = 14))))), (15, (.d (.i .i64 p0))), (14, (.d (.b (decide (p2 = (-1)))))), (13, (.d (.i .i64 p2))), (11, (.d (.b (decide (p2 = 0))))), (10, (.d (.i .i64 p2))), (7, (.d (.i .i64 0))), (6, (.ptr 6 0)), (0, (.d (.i .i64 p0))), (1, (.d (.i .i64 p1))), (2, (.d (.i .i64 p2)))], [(6, [(.d (.i .i64 0)), (.d (.i .i64 0)), (.d (.s (bs [])))])]⟩) (by kernel_rfl) ?_
        refine call_step (m := sL6Num y2.1 y2.2) (args := [(.d (.i .i64 y2.1)), (.d (.b y2.2))]) (v' := (fun y => (.tup [(vGValue y.1), (.d (.i .i64 y.2))]))) h (OK_sL6Num y2.1 y2.2) (by kernel_rfl) (by kernel_rfl) (fun _ => rfl) ?_
        clear h; intro y3 h
        refine sts_ok 4 (s' := ⟨[(7, (.d (.i .i64 y3.2))), (27, (.d (.i .i64 y3.2))), (26, (vGValue y3.1)), (25, (.tup [(vGValue y3.1), (.d (.i .i64 y3.2))])), (24, (.d (.b y2.2))), (23, (.d (.i .i64 y2.1))), (9, (.d (.b y2.2))), (8, (.d (.i .i64 y2.1))), (22, (.d (.b y2.2))), (21, (.d (.i .i64 y2.1))), (18, (.tup [(.d (.i .i64 y2.1)), (.d (.b y2.2))])), (20, (.tup [(.d (.i .i64 y2.1)), (.d (.b y2.2))])), (19, (.d (.i .i64 p1))), (16, (.d (.b (decide (p0 = 14))))), (15, (.d (.i .i64 p0))), (14, (.d (.b (decide (p2 = (-1)))))), (13, (.d (.i .i64 p2))), (11, (.d (.b (decide (p2 = 0))))), (10, (.d (.i .i64 p2))), (7, (.d (.i .i64 0))), (6, (.ptr 6 0)), (0, (.d (.i .i64 p0))), (1, (.d (.i .i64 p1))), (2, (.d (.i .i64 p2)))], [(6, [(.d (.i .i64 y3.1.kind)), (.d (.i .i64 y3.1.num)), (.d (.s (bs y3.1.text)))])]⟩) (by kernel_rfl) ?_
        refine nil_in ?_
        refine next_in ?_
        refine ret_in ?_
        refine thenK_ret ?_
        have h := Option.some.inj h; subst h
        exact retn_step (vs := [(vGValue y3.1), (.d (.i .i64 y3.2))]) (by kernel_rfl) (by kernel_rfl)
    · clear h; intro h
      refine skip_in ?_
      refine next_in ?_
      refine seq_in ?_
      refine seq_in ?_
      refine ops_in ?_
      refine sts_ok 2 (s' := ⟨[(29, (.d (.b (decide (p0 = 14))))), (28, (.d (.i .i64 p0))), (14, (.d (.b (decide (p2 = (-1)))))), (13, (.d (.i .i64 p2))), (11, (.d (.b (decide (p2 = 0))))), (10, (.d (.i .i64 p2))), (7, (.d (.i .i64 0))), (6, (.ptr 6 0)), (0, (.d (.i .i64 p0))), (1, (.d (.i .i64 p1))), (2, (.d (.i .i64 p2)))], [(6, [(.d (.i .i64 0)), (.d (.i .i64 0)), (.d (.s (bs [])))])]⟩) (by kernel_rfl) ?_
      refine nil_in ?_
      refine next_in ?_
      refine cond_step h (by kernel_rfl) ?_ ?_
      · clear h; intro h
        refine seq_in ?_
        refine ops_in ?_
        refine sts_ok 2 (s' := ⟨[(31, (.d (.i .i64 p2))), (30, (.d (.i .i64 p1))), (29, (.d (.b (decide (p0 = 14))))), (28, (.d (.i .i64 p0))), (14, (.d (.b (decide (p2 = (-1)))))), (13, (.d (.i .i64 p2))), (11, (.d (.b (decide (p2 = 0))))), (10, (.d (.i .i64 p2))), (7, (.d (.i .i64 0))), (6, (.ptr 6 0)), (0, (.d (.i .i64 p0))), (1, (.d (.i .i64 p1))), (2, (.d (.i .i64 p2)))], [(6, [(.d (.i .i64 0)), (.d (.i .i64 0)), (.d (.s (bs [])))])]⟩) (by kernel_rfl) ?_
        refine v_step (m := remG p1 p2) (v' := fun y => (.d (.i .i64 y))) h rfl rfl (fun y hy => vop_rem (k := .i64) (a := p1) (b := p2) hy (by kernel_rfl) (by kernel_rfl) (by kernel_rfl)) ?_
        clear h; intro y4 h
        refine call_step (m := sIntValue y4) (args := [(.d (.i .i64 y4))]) (v' := (fun y => (vGValue y))) h (OK_sIntValue y4) (by kernel_rfl) (by kernel_rfl) (fun _ => rfl) ?_
        clear h; intro y5 h
        refine sts_ok 2 (s' := ⟨[(7, (.d (.i .i64 0))), (33, (vGValue y5)), (32, (.d (.i .i64 y4))), (31, (.d (.i .i64 p2))), (30, (.d (.i .i64 p1))), (29, (.d (.b (decide (p0 = 14))))), (28, (.d (.i .i64 p0))), (14, (.d (.b (decide (p2 = (-1)))))), (13, (.d (.i .i64 p2))), (11, (.d (.b (decide (p2 = 0))))), (10, (.d (.i .i64 p2))), (7, (.d (.i .i64 0))), (6, (.ptr 6 0)), (0, (.d (.i .i64 p0))), (1, (.d (.i .i64 p1))), (2, (.d (.i .i64 p2)))], [(6, [(.d (.i .i64 y5.kind)), (.d (.i .i64 y5.num)), (.d (.s (bs y5.text)))])]⟩) (by kernel_rfl) ?_
        refine nil_in ?_
        refine next_in ?_
        refine ret_in ?_
        refine thenK_ret ?_
        have h := Option.some.inj h; subst h
        exact retn_step (vs := [(vGValue y5), (.d (.i .i64 0))]) (by kernel_rfl) (by kernel_rfl)
      · clear h; intro h
        refine skip_in ?_
        refine next_in ?_
        refine seq_in ?_
        refine ops_in ?_
        refine sts_ok 2 (s' := ⟨[(35, (.d (.i .i64 p2))), (34, (.d (.i .i64 p1))), (29, (.d (.b (decide (p0 = 14))))), (28, (.d (.i .i64 p0))), (14, (.d (.b (decide (p2 = (-1)))))), (13, (.d (.i .i64 p2))), (11, (.d (.b (decide (p2 = 0))))), (10, (.d (.i .i64 p2))), (7, (.d (.i .i64 0))), (6, (.ptr 6 0)), (0, (.d (.i .i64 p0))), (1, (.d (.i .i64 p1))), (2, (.d (.i .i64 p2)))], [(6, [(.d (.i .i64 0)), (.d (.i .i64 0)), (.d (.s (bs [])))])]⟩) (by kernel_rfl) ?_
        refine v_step (m := quoG .i64 p1 p2) (v' := fun y => (.d (.i .i64 y))) h rfl rfl (fun y hy => vop_quo (k := .i64) (a := p1) (b := p2) hy (by kernel_rfl) (by kernel_rfl) (by kernel_rfl)) ?_
        clear h; intro y6 h
        refine call_step (m := sIntValue y6) (args := [(.d (.i .i64 y6))]) (v' := (fun y => (vGValue y))) h (OK_sIntValue y6) (by kernel_rfl) (by kernel_rfl) (fun _ => rfl) ?_
        clear h; intro y7 h
        refine sts_ok 2 (s' := ⟨[(7, (.d (.i .i64 0))), (37, (vGValue y7)), (36, (.d (.i .i64 y6))), (35, (.d (.i .i64 p2))), (34, (.d (.i .i64 p1))), (29, (.d (.b (decide (p0 = 14))))), (28, (.d (.i .i64 p0))), (14, (.d (.b (decide (p2 = (-1)))))), (13, (.d (.i .i64 p2))), (11, (.d (.b (decide (p2 = 0))))), (10, (.d (.i .i64 p2))), (7, (.d (.i .i64 0))), (6, (.ptr 6 0)), (0, (.d (.i .i64 p0))), (1, (.d (.i .i64 p1))), (2, (.d (.i .i64 p2)))], [(6, [(.d (.i .i64 y7.kind)), (.d (.i .i64 y7.num)), (.d (.s (bs y7.text)))])]⟩) (by kernel_rfl) ?_
        refine nil_in ?_
        refine next_in ?_
        refine ret_in ?_
        have h := Option.some.inj h; subst h
        exact retn_step (vs := [(vGValue y7), (.d (.i .i64 0))]) (by kernel_rfl) (by kernel_rfl)
theorem OK_sOrder (p0 : GValue) (p1 : GValue) : FOk Try.prog 38 [(vGValue p0), (vGValue p1)] (fun y => (.d (.i .i64 y))) (sOrder p0 p1) := by
  intro r h
  rw [sOrder] at h
  refine acalls_of_fn trsOrder (Nat.le_of_ble_eq_true rfl) (by simp) ?_
  show avc Try.prog acsOrder (qsOrder _) ⟨[(0, (vGValue p0)), (1, (vGValue p1))], []⟩
  delta acsOrder
  refine seq_in ?_
  refine ops_in ?_
  refine sts_ok 3 (s' := ⟨[(4, (.d (.i .i64 0))), (3, (.ptr 3 0)), (2, (.ptr 2 0)), (0, (vGValue p0)), (1, (vGValue p1))], [(3, [(.d (.i .i64 p1.kind)), (.d (.i .i64 p1.num)), (.d (.s (bs p1.text)))]), (2, [(.d (.i .i64 p0.kind)), (.d (.i .i64 p0.num)), (.d (.s (bs p0.text)))])]⟩) (by kernel_rfl) ?_
  refine nil_in ?_
  refine next_in ?_
  refine seq_in ?_
  refine block_in ?_
  refine seq_in ?_
  refine ops_in ?_
  refine sts_ok 6 (s' := ⟨[(5, (.d (.b (decide (p0.kind < p1.kind))))), (10, (.d (.b (decide (p0.kind < p1.kind))))), (9, (.d (.i .i64 p1.kind))), (8, (.ptr 3 0)), (7, (.d (.i .i64 p0.kind))), (6, (.ptr 2 0)), (4, (.d (.i .i64 0))), (3, (.ptr 3 0)), (2, (.ptr 2 0)), (0, (vGValue p0)), (1, (vGValue p1))], [(3, [(.d (.i .i64 p1.kind)), (.d (.i .i64 p1.num)), (.d (.s (bs p1.text)))]), (2, [(.d (.i .i64 p0.kind)), (.d (.i .i64 p0.num)), (.d (.s (bs p0.text)))])]⟩) (by kernel_rfl) ?_
  refine nil_in ?_
  refine next_in ?_
  refine cond_step h (by kernel_rfl) ?_ ?_
  · clear h; intro h
    refine seq_in ?_
    refine ops_in ?_
    refine sts_ok 1 (s' := ⟨[(4, (.d (.i .i64 (-1)))), (5, (.d (.b (decide (p0.kind < p1.kind))))), (10, (.d (.b (decide (p0.kind < p1.kind))))), (9, (.d (.i .i64 p1.kind))), (8, (.ptr 3 0)), (7, (.d (.i .i64 p0.kind))), (6, (.ptr 2 0)), (4, (.d (.i .i64 0))), (3, (.ptr 3 0)), (2, (.ptr 2 0)), (0, (vGValue p0)), (1, (vGValue p1))], [(3, [(.d (.i .i64 p1.kind)), (.d (.i .i64 p1.num)), (.d (.s (bs p1.text)))]), (2, [(.d (.i .i64 p0.kind)), (.d (.i .i64 p0.num)), (.d (.s (bs p0.text)))])]⟩) (by kernel_rfl) ?_
    refine nil_in ?_
    refine next_in ?_
    refine ret_in ?_
    refine blockK_ret ?_
    refine thenK_ret ?_
    have h := Option.some.inj h; subst h
    exact ret1_step (v := (.d (.i .i64 (-1)))) (by kernel_rfl) (by kernel_rfl) (by kernel_rfl)
  · clear h; intro h
    refine seq_in ?_
    refine ops_in ?_
    refine sts_ok 6 (s' := ⟨[(11, (.d (.b (decide (p1.kind < p0.kind))))), (16, (.d (.b (decide (p1.kind < p0.kind))))), (15, (.d (.i .i64 p1.kind))), (14, (.ptr 3 0)), (13, (.d (.i .i64 p0.kind))), (12, (.ptr 2 0)), (5, (.d (.b (decide (p0.kind < p1.kind))))), (10, (.d (.b (decide (p0.kind < p1.kind))))), (9, (.d (.i .i64 p1.kind))), (8, (.ptr 3 0)), (7, (.d (.i .i64 p0.kind))), (6, (.ptr 2 0)), (4, (.d (.i .i64 0))), (3, (.ptr 3 0)), (2, (.ptr 2 0)), (0, (vGValue p0)), (1, (vGValue p1))], [(3, [(.d (.i .i64 p1.kind)), (.d (.i .i64 p1.num)), (.d (.s (bs p1.text)))]), (2, [(.d (.i .i64 p0.kind)), (.d (.i .i64 p0.num)), (.d (.s (bs p0.text)))])]⟩) (by kernel_rfl) ?_
    refine nil_in ?_
    refine next_in ?_
    refine cond_step h (by kernel_rfl) ?_ ?_
    · clear h; intro h
      refine seq_in ?_
      refine ops_in ?_
      refine sts_ok 1 (s' := ⟨[(4, (.d (.i .i64 1))), (11, (.d (.b (decide (p1.kind < p0.kind))))), (16, (.d (.b (decide (p1.kind < p0.kind))))), (15, (.d (.i .i64 p1.kind))), (14, (.ptr 3 0)), (13, (.d (.i .i64 p0.kind))), (12, (.ptr 2 0)), (5, (.d (.b (decide (p0.kind < p1.kind))))), (10, (.d (.b (decide (p0.kind < p1.kind))))), (9, (.d (.i .i64 p1.kind))), (8, (.ptr 3 0)), (7, (.d (.i .i64 p0.kind))), (6, (.ptr 2 0)), (4, (.d (.i .i64 0))), (3, (.ptr 3 0)), (2, (.ptr 2 0)), (0, (vGValue p0)), (1, (vGValue p1))], [(3, [(.d (.i .i64 p1.kind)), (.d (.i .i64 p1.num)), (.d (.s (bs p1.text)))]), (2, [(.d (.i .i64 p0.kind)), (.d (.i .i64 p0.num)), (.d (.s (bs p0.text)))])]⟩) (by kernel_rfl) ?_
      refine nil_in ?_
      refine next_in ?_
      refine ret_in ?_
      refine blockK_ret ?_
      refine thenK_ret ?_
      have h := Option.some.inj h; subst h
      exact ret1_step (v := (.d (.i .i64 1))) (by kernel_rfl) (by kernel_rfl) (by kernel_rfl)
    · clear h; intro h
      refine seq_in ?_
      refine ops_in ?_
      refine sts_ok 6 (s' := ⟨[(17, (.d (.b (decide (p0.num < p1.num))))), (22, (.d (.b (decide (p0.num < p1.num))))), (21, (.d (.i .i64 p1.num))), (20, (.ptr 3 1)), (19, (.d (.i .i64 p0.num))), (18, (.ptr 2 1)), (11, (.d (.b (decide (p1.kind < p0.kind))))), (16, (.d (.b (decide (p1.kind < p0.kind))))), (15, (.d (.i .i64 p1.kind))), (14, (.ptr 3 0)), (13, (.d (.i .i64 p0.kind))), (12, (.ptr 2 0)), (5, (.d (.b (decide (p0.kind < p1.kind))))), (10, (.d (.b (decide (p0.kind < p1.kind))))), (9, (.d (.i .i64 p1.kind))), (8, (.ptr 3 0)), (7, (.d (.i .i64 p0.kind))), (6, (.ptr 2 0)), (4, (.d (.i .i64 0))), (3, (.ptr 3 0)), (2, (.ptr 2 0)), (0, (vGValue p0)), (1, (vGValue p1))], [(3, [(.d (.i .i64 p1.kind)), (.d (.i .i64 p1.num)), (.d (.s (bs p1.text)))]), (2, [(.d (.i .i64 p0.kind)), (.d (.i .i64 p0.num)), (.d (.s (bs p0.text)))])]⟩) (by kernel_rfl) ?_
      refine nil_in ?_
      refine next_in ?_
      refine cond_step h (by kernel_rfl) ?_ ?_
      · clear h; intro h
        refine seq_in ?_
        refine ops_in ?_
        refine sts_ok 1 (s' := ⟨[(4, (.d (.i .i64 (-1)))), (17, (.d (.b (decide (p0.num < p1.num))))), (22, (.d (.b (decide (p0.num < p1.num))))), (21, (.d (.i .i64 p1.num))), (20, (.ptr 3 1)), (19, (.d (.i .i64 p0.num))), (18, (.ptr 2 1)), (11, (.d (.b (decide (p1.kind < p0.kind))))), (16, (.d (.b (decide (p1.kind < p0.kind))))), (15, (.d (.i .i64 p1.kind))), (14, (.ptr 3 0)), (13, (.d (.i .i64 p0.kind))), (12, (.ptr 2 0)), (5, (.d (.b (decide (p0.kind < p1.kind))))), (10, (.d (.b (decide (p0.kind < p1.kind))))), (9, (.d (.i .i64 p1.kind))), (8, (.ptr 3 0)), (7, (.d (.i .i64 p0.kind))), (6, (.ptr 2 0)), (4, (.d (.i .i64 0))), (3, (.ptr 3 0)), (2, (.ptr 2 0)), (0, (vGValue p0)), (1, (vGValue p1))], [(3, [(.d (.i .i64 p1.kind)), (.d (.i .i64 p1.num)), (.d (.s (bs p1.text)))]), (2, [(.d (.i .i64 p0.kind)), (.d (.i .i64 p0.num)), (.d (.s (bs p0.text)))])]⟩) (by kernel_rfl) ?_
        refine nil_in ?_
        refine next_in ?_
        refine ret_in ?_
        refine blockK_ret ?_
        refine thenK_ret ?_
        have h := Option.some.inj h; subst h
        exact ret1_step (v := (.d (.i .i64 (-1)))) (by kernel_rfl) (by kernel_rfl) (by kernel_rfl)
      · clear h; intro h
        refine seq_in ?_
        refine ops_in ?_
        refine sts_ok 6 (s' := ⟨[(23, (.d (.b (decide (p1.num < p0.num))))), (28, (.d (.b (decide (p1.num < p0.num))))), (27, (.d (.i .i64 p1.num))), (26, (.ptr 3 1)), (25, (.d (.i .i64 p0.num))), (24, (.ptr 2 1)), (17, (.d (.b (decide (p0.num < p1.num))))), (22, (.d (.b (decide (p0.num < p1.num))))), (21, (.d (.i .i64 p1.num))), (20, (.ptr 3 1)), (19, (.d (.i .i64 p0.num))), (18, (.ptr 2 1)), (11, (.d (.b (decide (p1.kind < p0.kind))))), (16, (.d (.b (decide (p1.kind < p0.kind))))), (15, (.d (.i .i64 p1.kind))), (14, (.ptr 3 0)), (13, (.d (.i .i64 p0.kind))), (12, (.ptr 2 0)), (5, (.d (.b (decide (p0.kind < p1.kind))))), (10, (.d (.b (decide (p0.kind < p1.kind))))), (9, (.d (.i .i64 p1.kind))), (8, (.ptr 3 0)), (7, (.d (.i .i64 p0.kind))), (6, (.ptr 2 0)), (4, (.d (.i .i64 0))), (3, (.ptr 3 0)), (2, (.ptr 2 0)), (0, (vGValue p0)), (1, (vGValue p1))], [(3, [(.d (.i .i64 p1.kind)), (.d (.i .i64 p1.num)), (.d (.s (bs p1.text)))]), (2, [(.d (.i .i64 p0.kind)), (.d (.i .i64 p0.num)), (.d (.s (bs p0.text)))])]⟩) (by kernel_rfl) ?_
        refine nil_in ?_
        refine next_in ?_
        refine cond_step h (by kernel_rfl) ?_ ?_
        · clear h; intro h
          refine seq_in ?_
          refine ops_in ?_
          refine sts_ok 1 (s' := ⟨[(4, (.d (.i .i64 1))), (23, (.d (.b (decide (p1.num < p0.num))))), (28, (.d (.b (decide (p1.num < p0.num))))), (27, (.d (.i .i64 p1.num))), (26, (.ptr 3 1)), (25, (.d (.i .i64 p0.num))), (24, (.ptr 2 1)), (17, (.d (.b (decide (p0.num < p1.num))))), (22, (.d (.b (decide (p0.num < p1.num))))), (21, (.d (.i .i64 p1.num))), (20, (.ptr 3 1)), (19, (.d (.i .i64 p0.num))), (18, (.ptr 2 1)), (11, (.d (.b (decide (p1.kind < p0.kind))))), (16, (.d (.b (decide (p1.kind < p0.kind))))), (15, (.d (.i .i64 p1.kind))), (14, (.ptr 3 0)), (13, (.d (.i .i64 p0.kind))), (12, (.ptr 2 0)), (5, (.d (.b (decide (p0.kind < p1.kind))))), (10, (.d (.b (decide (p0.kind < p1.kind))))), (9, (.d (.i .i64 p1.kind))), (8, (.ptr 3 0)), (7, (.d (.i .i64 p0.kind))), (6, (.ptr 2 0)), (4, (.d (.i .i64 0))), (3, (.ptr 3 0)), (2, (.ptr 2 0)), (0, (vGValue p0)), (1, (vGValue p1))], [(3, [(.d (.i .i64 p1.kind)), (.d (.i .i64 p1.num)), (.d (.s (bs p1.text)))]), (2, [(.d (.i .i64 p0.kind)), (.d (.i .i64 p0.num)), (.d (.s (bs p0.text)))])]⟩) (by kernel_rfl) ?_
          refine nil_in ?_
          refine next_in ?_
          refine ret_in ?_
          refine blockK_ret ?_
          refine thenK_ret ?_
          have h := Option.some.inj h; subst h
          exact ret1_step (v := (.d (.i .i64 1))) (by kernel_rfl) (by kernel_rfl) (by kernel_rfl)
        · clear h; intro h
          refine seq_in ?_
          refine ops_in ?_
          refine sts_ok 6 (s' := ⟨[(29, (.d (.b (Op.bytesLess p0.text p1.text)))), (34, (.d (.b (Op.bytesLess p0.text p1.text)))), (33, (.d (.s (bs p1.text)))), (32, (.ptr 3 2)), (31, (.d (.s (bs p0.text)))), (30, (.ptr 2 2)), (23, (.d (.b (decide (p1.num < p0.num))))), (28, (.d (.b (decide (p1.num < p0.num))))), (27, (.d (.i .i64 p1.num))), (26, (.ptr 3 1)), (25, (.d (.i .i64 p0.num))), (24, (.ptr 2 1)), (17, (.d (.b (decide (p0.num < p1.num))))), (22, (.d (.b (decide (p0.num < p1.num))))), (21, (.d (.i .i64 p1.num))), (20, (.ptr 3 1)), (19, (.d (.i .i64 p0.num))), (18, (.ptr 2 1)), (11, (.d (.b (decide (p1.kind < p0.kind))))), (16, (.d (.b (decide (p1.kind < p0.kind))))), (15, (.d (.i .i64 p1.kind))), (14, (.ptr 3 0)), (13, (.d (.i .i64 p0.kind))), (12, (.ptr 2 0)), (5, (.d (.b (decide (p0.kind < p1.kind))))), (10, (.d (.b (decide (p0.kind < p1.kind))))), (9, (.d (.i .i64 p1.kind))), (8, (.ptr 3 0)), (7, (.d (.i .i64 p0.kind))), (6, (.ptr 2 0)), (4, (.d (.i .i64 0))), (3, (.ptr 3 0)), (2, (.ptr 2 0)), (0, (vGValue p0)), (1, (vGValue p1))], [(3, [(.d (.i .i64 p1.kind)), (.d (.i .i64 p1.num)), (.d (.s (bs p1.text)))]), (2, [(.d (.i .i64 p0.kind)), (.d (.i .i64 p0.num)), (.d (.s (bs p0.text)))])]⟩) (by kernel_rfl) ?_
          refine nil_in ?_
          refine next_in ?_
          refine cond_step h (by kernel_rfl) ?_ ?_
          · clear h; intro h
            refine seq_in ?_
            refine ops_in ?_
            refine sts_ok 1 (s' := ⟨[(4, (.d (.i .i64 (-1)))), (29, (.d (.b (Op.bytesLess p0.text p1.text)))), (34, (.d (.b (Op.bytesLess p0.text p1.text)))), (33, (.d (.s (bs p1.text)))), (32, (.ptr 3 2)), (31, (.d (.s (bs p0.text)))), (30, (.ptr 2 2)), (23, (.d (.b (decide (p1.num < p0.num))))), (28, (.d (.b (decide (p1.num < p0.num))))), (27, (.d (.i .i64 p1.num))), (26, (.ptr 3 1)), (25, (.d (.i .i64 p0.num))), (24, (.ptr 2 1)), (17, (.d (.b (decide (p0.num < p1.num))))), (22, (.d (.b (decide (p0.num < p1.num))))), (21, (.d (.i .i64 p1.num))), (20, (.ptr 3 1)), (19, (.d (.i .i64 p0.num))), (18, (.ptr 2 1)), (11, (.d (.b (decide (p1.kind < p0.kind))))), (16, (.d (.b (decide (p1.kind < p0.kind))))), (15, (.d (.i .i64 p1.kind))), (14, (.ptr 3 0)), (13, (.d (.i .i64 p0.kind))), (12, (.ptr 2 0)), (5, (.d (.b (decide (p0.kind < p1.kind))))), (10, (.d (.b (decide (p0.kind < p1.kind))))), (9, (.d (.i .i64 p1.kind))), (8, (.ptr 3 0)), (7, (.d (.i .i64 p0.kind))), (6, (.ptr 2 0)), (4, (.d (.i .i64 0))), (3, (.ptr 3 0)), (2, (.ptr 2 0)), (0, (vGValue p0)), (1, (vGValue p1))], [(3, [(.d (.i .i64 p1.kind)), (.d (.i .i64 p1.num)), (.d (.s (bs p1.text)))]), (2, [(.d (.i .i64 p0.kind)), (.d (.i .i64 p0.num)), (.d (.s (bs p0.text)))])]⟩) (by kernel_rfl) ?_
            refine nil_in ?_
            refine next_in ?_
            refine ret_in ?_
            refine blockK_ret ?_
            refine thenK_ret ?_
            have h := Option.some.inj h; subst h
            exact ret1_step (v := (.d (.i .i64 (-1)))) (by kernel_rfl) (by kernel_rfl) (by kernel_rfl)
          · clear h; intro h
            refine seq_in ?_
            refine ops_in ?_
            refine sts_ok 6 (s' := ⟨[(35, (.d (.b (!(Op.bytesLess p0.text p1.text || decide (p0.text = p1.text)))))), (40, (.d (.b (!(Op.bytesLess p0.text p1.text || decide (p0.text = p1.text)))))), (39, (.d (.s (bs p1.text)))), (38, (.ptr 3 2)), (37, (.d (.s (bs p0.text)))), (36, (.ptr 2 2)), (29, (.d (.b (Op.bytesLess p0.text p1.text)))), (34, (.d (.b (Op.bytesLess p0.text p1.text)))), (33, (.d (.s (bs p1.text)))), (32, (.ptr 3 2)), (31, (.d (.s (bs p0.text)))), (30, (.ptr 2 2)), (23, (.d (.b (decide (p1.num < p0.num))))), (28, (.d (.b (decide (p1.num < p0.num))))), (27, (.d (.i .i64 p1.num))), (26, (.ptr 3 1)), (25, (.d (.i .i64 p0.num))), (24, (.ptr 2 1)), (17, (.d (.b (decide (p0.num < p1.num))))), (22, (.d (.b (decide (p0.num < p1.num))))), (21, (.d (.i .i64 p1.num))), (20, (.ptr 3 1)), (19, (.d (.i .i64 p0.num))), (18, (.ptr 2 1)), (11, (.d (.b (decide (p1.kind < p0.kind))))), (16, (.d (.b (decide (p1.kind < p0.kind))))), (15, (.d (.i .i64 p1.kind))), (14, (.ptr 3 0)), (13, (.d (.i .i64 p0.kind))), (12, (.ptr 2 0)), (5, (.d (.b (decide (p0.kind < p1.kind))))), (10, (.d (.b (decide (p0.kind < p1.kind))))), (9, (.d (.i .i64 p1.kind))), (8, (.ptr 3 0)), (7, (.d (.i .i64 p0.kind))), (6, (.ptr 2 0)), (4, (.d (.i .i64 0))), (3, (.ptr 3 0)), (2, (.ptr 2 0)), (0, (vGValue p0)), (1, (vGValue p1))], [(3, [(.d (.i .i64 p1.kind)), (.d (.i .i64 p1.num)), (.d (.s (bs p1.text)))]), (2, [(.d (.i .i64 p0.kind)), (.d (.i .i64 p0.num)), (.d (.s (bs p0.text)))])]⟩) (by kernel_rfl) ?_
            refine nil_in ?_
            refine next_in ?_
            refine cond_step h (by kernel_rfl) ?_ ?_
            · clear h; intro h
              refine seq_in ?_
              refine ops_in ?_
              refine sts_ok 1 (s' := ⟨[(4, (.d (.i .i64 1))), (35, (.d (.b (!(Op.bytesLess p0.text p1.text || decide (p0.text = p1.text)))))), (40, (.d (.b (!(Op.bytesLess p0.text p1.text || decide (p0.text = p1.text)))))), (39, (.d (.s (bs p1.text)))), (38, (.ptr 3 2)), (37, (.d (.s (bs p0.text)))), (36, (.ptr 2 2)), (29, (.d (.b (Op.bytesLess p0.text p1.text)))), (34, (.d (.b (Op.bytesLess p0.text p1.text)))), (33, (.d (.s (bs p1.text)))), (32, (.ptr 3 2)), (31, (.d (.s (bs p0.text)))), (30, (.ptr 2 2)), (23, (.d (.b (decide (p1.num < p0.num))))), (28, (.d (.b (decide (p1.num < p0.num))))), (27, (.d (.i .i64 p1.num))), (26, (.ptr 3 1)), (25, (.d (.i .i64 p0.num))), (24, (.ptr 2 1)), (17, (.d (.b (decide (p0.num < p1.num))))), (22, (.d (.b (decide (p0.num < p1.num))))), (21, (.d (.i .i64 p1.num))), (20, (.ptr 3 1)), (19, (.d (.i .i64 p0.num))), (18, (.ptr 2 1)), (11, (.d (.b (decide (p1.kind < p0.kind))))), (16, (.d (.b (decide (p1.kind < p0.kind))))), (15, (.d (.i .i64 p1.kind))), (14, (.ptr 3 0)), (13, (.d (.i .i64 p0.kind))), (12, (.ptr 2 0)), (5, (.d (.b (decide (p0.kind < p1.kind))))), (10, (.d (.b (decide (p0.kind < p1.kind))))), (9, (.d (.i .i64 p1.kind))), (8, (.ptr 3 0)), (7, (.d (.i .i64 p0.kind))), (6, (.ptr 2 0)), (4, (.d (.i .i64 0))), (3, (.ptr 3 0)), (2, (.ptr 2 0)), (0, (vGValue p0)), (1, (vGValue p1))], [(3, [(.d (.i .i64 p1.kind)), (.d (.i .i64 p1.num)), (.d (.s (bs p1.text)))]), (2, [(.d (.i .i64 p0.kind)), (.d (.i .i64 p0.num)), (.d (.s (bs p0.text)))])]⟩) (by kernel_rfl) ?_
              refine nil_in ?_
              refine next_in ?_
              refine ret_in ?_
              refine blockK_ret ?_
              refine thenK_ret ?_
              have h := Option.some.inj h; subst h
              exact ret1_step (v := (.d (.i .i64 1))) (by kernel_rfl) (by kernel_rfl) (by kernel_rfl)
            · clear h; intro h
              refine skip_in ?_
              refine blockK_norm ?_
              refine next_in ?_
              refine seq_in ?_
              refine ops_in ?_
              refine sts_ok 1 (s' := ⟨[(4, (.d (.i .i64 0))), (35, (.d (.b (!(Op.bytesLess p0.text p1.text || decide (p0.text = p1.text)))))), (40, (.d (.b (!(Op.bytesLess p0.text p1.text || decide (p0.text = p1.text)))))), (39, (.d (.s (bs p1.text)))), (38, (.ptr 3 2)), (37, (.d (.s (bs p0.text)))), (36, (.ptr 2 2)), (29, (.d (.b (Op.bytesLess p0.text p1.text)))), (34, (.d (.b (Op.bytesLess p0.text p1.text)))), (33, (.d (.s (bs p1.text)))), (32, (.ptr 3 2)), (31, (.d (.s (bs p0.text)))), (30, (.ptr 2 2)), (23, (.d (.b (decide (p1.num < p0.num))))), (28, (.d (.b (decide (p1.num < p0.num))))), (27, (.d (.i .i64 p1.num))), (26, (.ptr 3 1)), (25, (.d (.i .i64 p0.num))), (24, (.ptr 2 1)), (17, (.d (.b (decide (p0.num < p1.num))))), (22, (.d (.b (decide (p0.num < p1.num))))), (21, (.d (.i .i64 p1.num))), (20, (.ptr 3 1)), (19, (.d (.i .i64 p0.num))), (18, (.ptr 2 1)), (11, (.d (.b (decide (p1.kind < p0.kind))))), (16, (.d (.b (decide (p1.kind < p0.kind))))), (15, (.d (.i .i64 p1.kind))), (14, (.ptr 3 0)), (13, (.d (.i .i64 p0.kind))), (12, (.ptr 2 0)), (5, (.d (.b (decide (p0.kind < p1.kind))))), (10, (.d (.b (decide (p0.kind < p1.kind))))), (9, (.d (.i .i64 p1.kind))), (8, (.ptr 3 0)), (7, (.d (.i .i64 p0.kind))), (6, (.ptr 2 0)), (4, (.d (.i .i64 0))), (3, (.ptr 3 0)), (2, (.ptr 2 0)), (0, (vGValue p0)), (1, (vGValue p1))], [(3, [(.d (.i .i64 p1.kind)), (.d (.i .i64 p1.num)), (.d (.s (bs p1.text)))]), (2, [(.d (.i .i64 p0.kind)), (.d (.i .i64 p0.num)), (.d (.s (bs p0.text)))])]⟩) (by kernel_rfl) ?_
              refine nil_in ?_
              refine next_in ?_
              refine ret_in ?_
              have h := Option.some.inj h; subst h
              exact ret1_step (v := (.d (.i .i64 0))) (by kernel_rfl) (by kernel_rfl) (by kernel_rfl)
theorem OK_sCalc_J0 (p0 : Int) (p1 : GValue) (p2 : GValue) (x112 : Bool) (r : GValue × Int) (h : sCalc_J0 p0 p1 p2 x112 = some r) : avc Try.prog acsCalc_J0 (qsCalc_1 r) (stsCalc_J0 p0 p1 p2 x112) := by
  rw [sCalc_J0] at h
  delta acsCalc_J0
  refine cond_step h (by kernel_rfl) ?_ ?_
  · clear h; intro h
    refine seq_in ?_
    refine ops_in ?_
    refine sts_ok 5 (s' := ⟨(119, (.d (.i .i64 p2.num))) :: (118, (.ptr 5 1)) :: (117, (.d (.i .i64 p1.num))) :: (116, (.ptr 4 1)) :: (115, (.d (.i .i64 p0))) :: (stsCalc_J0 p0 p1 p2 x112).env, (stsCalc_J0 p0 p1 p2 x112).bx⟩) (by kernel_rfl) ?_
    refine call_step (m := sL6Divide p0 p1.num p2.num) (args := [(.d (.i .i64 p0)), (.d (.i .i64 p1.num)), (.d (.i .i64 p2.num))]) (v' := (fun y => (.tup [(vGValue y.1), (.d (.i .i64 y.2))]))) h (OK_sL6Divide p0 p1.num p2.num) (by kernel_rfl) (by kernel_rfl) (fun _ => rfl) ?_
    clear h; intro y16 h
    refine sts_ok 4 (s' := ⟨(7, (.d (.i .i64 y16.2))) :: (122, (.d (.i .i64 y16.2))) :: (121, (vGValue y16.1)) :: (120, (.tup [(vGValue y16.1), (.d (.i .i64 y16.2))])) :: (119, (.d (.i .i64 p2.num))) :: (118, (.ptr 5 1)) :: (117, (.d (.i .i64 p1.num))) :: (116, (.ptr 4 1)) :: (115, (.d (.i .i64 p0))) :: (stsCalc_J0 p0 p1 p2 x112).env, [(4, [(.d (.i .i64 p1.kind)), (.d (.i .i64 p1.num)), (.d (.s (bs p1.text)))]), (5, [(.d (.i .i64 p2.kind)), (.d (.i .i64 p2.num)), (.d (.s (bs p2.text)))]), (6, [(.d (.i .i64 y16.1.kind)), (.d (.i .i64 y16.1.num)), (.d (.s (bs y16.1.text)))])]⟩) (by kernel_rfl) ?_
    refine nil_in ?_
    refine next_in ?_
    refine ret_in ?_
    refine blockK_ret ?_
    refine thenK_ret ?_
    have h := Option.some.inj h; subst h
    exact retn_step (vs := [(vGValue y16.1), (.d (.i .i64 y16.2))]) (by kernel_rfl) (by kernel_rfl)
  · clear h; intro h
    refine skip_in ?_
    refine blockK_norm ?_
    refine next_in ?_
    refine seq_in ?_
    refine ops_in ?_
    refine sts_ok 3 (s' := ⟨(125, (vGValue p2)) :: (124, (vGValue p1)) :: (123, (.d (.i .i64 p0))) :: (stsCalc_J0 p0 p1 p2 x112).env, (stsCalc_J0 p0 p1 p2 x112).bx⟩) (by kernel_rfl) ?_
    refine call_step (m := sOrder p1 p2) (args := [(vGValue p1), (vGValue p2)]) (v' := (fun y => (.d (.i .i64 y)))) h (OK_sOrder p1 p2) (by kernel_rfl) (by kernel_rfl) (fun _ => rfl) ?_
    clear h; intro y17 h
    refine call_step (m := sL6Compare p0 y17) (args := [(.d (.i .i64 p0)), (.d (.i .i64 y17))]) (v' := (fun y => (.d (.b y)))) h (OK_sL6Compare p0 y17) (by kernel_rfl) (by kernel_rfl) (fun _ => rfl) ?_
    clear h; intro y18 h
    refine call_step (m := sBoolValue y18) (args := [(.d (.b y18))]) (v' := (fun y => (vGValue y))) h (OK_sBoolValue y18) (by kernel_rfl) (by kernel_rfl) (fun _ => rfl) ?_
    clear h; intro y19 h
    refine sts_ok 2 (s' := ⟨(7, (.d (.i .i64 0))) :: (128, (vGValue y19)) :: (127, (.d (.b y18))) :: (126, (.d (.i .i64 y17))) :: (125, (vGValue p2)) :: (124, (vGValue p1)) :: (123, (.d (.i .i64 p0))) :: (stsCalc_J0 p0 p1 p2 x112).env, [(4, [(.d (.i .i64 p1.kind)), (.d (.i .i64 p1.num)), (.d (.s (bs p1.text)))]), (5, [(.d (.i .i64 p2.kind)), (.d (.i .i64 p2.num)), (.d (.s (bs p2.text)))]), (6, [(.d (.i .i64 y19.kind)), (.d (.i .i64 y19.num)), (.d (.s (bs y19.text)))])]⟩) (by kernel_rfl) ?_
    refine nil_in ?_
    refine next_in ?_
    refine ret_in ?_
    have h := Option.some.inj h; subst h
    exact retn_step (vs := [(vGValue y19), (.d (.i .i64 0))]) (by kernel_rfl) (by kernel_rfl)
theorem OK_sL1In (p0 : Int) (p1 : Int) (p2 : Int) : FOk Try.prog 121 [(.d (.i .i64 p0)), (.d (.i .i64 p1)), (.d (.i .i64 p2))] (fun y => (.d (.b y))) (sL1In p0 p1 p2) := by
  intro r h
  rw [sL1In] at h
  refine acalls_of_fn trsL1In (Nat.le_of_ble_eq_true rfl) (by simp) ?_
  show avc Try.prog acsL1In (qsL1In _) ⟨[(0, (.d (.i .i64 p0))), (1, (.d (.i .i64 p1))), (2, (.d (.i .i64 p2)))], []⟩
  delta acsL1In
  refine seq_in ?_
  refine ops_in ?_
  refine sts_ok 1 (s' := ⟨[(6, (.d (.b false))), (0, (.d (.i .i64 p0))), (1, (.d (.i .i64 p1))), (2, (.d (.i .i64 p2)))], []⟩) (by kernel_rfl) ?_
  refine nil_in ?_
  refine next_in ?_
  refine seq_in ?_
  refine ops_in ?_
  refine sts_ok 4 (s' := ⟨[(10, (.d (.b (decide (p1 ≤ p0))))), (9, (.d (.b (decide (p1 ≤ p0))))), (8, (.d (.i .i64 p1))), (7, (.d (.i .i64 p0))), (6, (.d (.b false))), (0, (.d (.i .i64 p0))), (1, (.d (.i .i64 p1))), (2, (.d (.i .i64 p2)))], []⟩) (by kernel_rfl) ?_
  refine gp_step (p := true) (b := (decide (p1 ≤ p0))) (v' := (.d (.i .i64 p0))) (by kernel_rfl) rfl rfl (fun hc => vop_val1 (by kernel_rfl) (by kernel_rfl)) ?_
  refine gp_step (p := true) (b := (decide (p1 ≤ p0))) (v' := (.d (.i .i64 p2))) (by kernel_rfl) rfl rfl (fun hc => vop_val1 (by kernel_rfl) (by kernel_rfl)) ?_
  refine gp_step (p := true) (b := (decide (p1 ≤ p0))) (v' := (.d (.b (decide (p0 ≤ p2))))) (by kernel_rfl) rfl rfl (fun hc => vop_val1 (Eq.trans (b := ([(true && ((decide (p1 ≤ p0)) == true)), (true && ((decide (p1 ≤ p0)) == true))] : List Bool).all id) (by kernel_rfl) (all_c hc (all_c hc rfl))) (by kernel_rfl)) ?_
  refine p_step (v' := (.d (.b (if (decide (p1 ≤ p0)) = true then (decide (p0 ≤ p2)) else false)))) rfl rfl (vop_pick (b := (decide (p1 ≤ p0))) (p := (true && ((decide (p1 ≤ p0)) == true))) (u := (decide (p0 ≤ p2))) (q := true) (v := false) (by kernel_rfl) (by kernel_rfl) (by kernel_rfl) (by kernel_rfl) (fun hb => gc_t rfl hb) (fun _ => rfl)) ?_
  refine sts_ok 1 (s' := ⟨[(6, (.d (.b (if (decide (p1 ≤ p0)) = true then (decide (p0 ≤ p2)) else false)))), (14, (.d (.b (if (decide (p1 ≤ p0)) = true then (decide (p0 ≤ p2)) else false)))), (13, (.ite (true && ((decide (p1 ≤ p0)) == true)) (.d (.b (decide (p0 ≤ p2)))))), (12, (.ite (true && ((decide (p1 ≤ p0)) == true)) (.d (.i .i64 p2)))), (11, (.ite (true && ((decide (p1 ≤ p0)) == true)) (.d (.i .i64 p0)))), (10, (.d (.b (decide (p1 ≤ p0))))), (9, (.d (.b (decide (p1 ≤ p0))))), (8, (.d (.i .i64 p1))), (7, (.d (.i .i64 p0))), (6, (.d (.b false))), (0, (.d (.i .i64 p0))), (1, (.d (.i .i64 p1))), (2, (.d (.i .i64 p2)))], []⟩) (by kernel_rfl) ?_
  refine nil_in ?_
  refine next_in ?_
  refine ret_in ?_
  have h := Option.some.inj h; subst h
  exact ret1_step (v := (.d (.b (if (decide (p1 ≤ p0)) = true then (decide (p0 ≤ p2)) else false)))) (by kernel_rfl) (by kernel_rfl) (by kernel_rfl)
theorem OK_sL6Null (p0 : GValue) : FOk Try.prog 125 [(vGValue p0)] (fun y => (.d (.b y))) (sL6Null p0) := by
  intro r h
  rw [sL6Null] at h
  refine acalls_of_fn trsL6Null (Nat.le_of_ble_eq_true rfl) (by simp) ?_
  show avc Try.prog acsL6Null (qsL6Null _) ⟨[(0, (vGValue p0))], []⟩
  delta acsL6Null
  refine seq_in ?_
  refine ops_in ?_
  refine sts_ok 2 (s' := ⟨[(2, (.d (.b false))), (1, (.ptr 1 0)), (0, (vGValue p0))], [(1, [(.d (.i .i64 p0.kind)), (.d (.i .i64 p0.num)), (.d (.s (bs p0.text)))])]⟩) (by kernel_rfl) ?_
  refine nil_in ?_
  refine next_in ?_
  refine seq_in ?_
  refine ops_in ?_
  refine sts_ok 4 (s' := ⟨[(2, (.d (.b (decide (p0.kind = 0))))), (5, (.d (.b (decide (p0.kind = 0))))), (4, (.d (.i .i64 p0.kind))), (3, (.ptr 1 0)), (2, (.d (.b false))), (1, (.ptr 1 0)), (0, (vGValue p0))], [(1, [(.d (.i .i64 p0.kind)), (.d (.i .i64 p0.num)), (.d (.s (bs p0.text)))])]⟩) (by kernel_rfl) ?_
  refine nil_in ?_
  refine next_in ?_
  refine ret_in ?_
  have h := Option.some.inj h; subst h
  exact ret1_step (v := (.d (.b (decide (p0.kind = 0))))) (by kernel_rfl) (by kernel_rfl) (by kernel_rfl)
theorem OK_sL6Is (p0 : GValue) (p1 : Int) : FOk Try.prog 185 [(vGValue p0), (.d (.i .i64 p1))] (fun y => (.d (.b y))) (sL6Is p0 p1) := by
  intro r h
  rw [sL6Is] at h
  refine acalls_of_fn trsL6Is (Nat.le_of_ble_eq_true rfl) (by simp) ?_
  show avc Try.prog acsL6Is (qsL6Is _) ⟨[(0, (vGValue p0)), (1, (.d (.i .i64 p1)))], []⟩
  delta acsL6Is
  refine seq_in ?_
  refine ops_in ?_
  refine sts_ok 2 (s' := ⟨[(4, (.d (.b false))), (2, (.ptr 2 0)), (0, (vGValue p0)), (1, (.d (.i .i64 p1)))], [(2, [(.d (.i .i64 p0.kind)), (.d (.i .i64 p0.num)), (.d (.s (bs p0.text)))])]⟩) (by kernel_rfl) ?_
  refine nil_in ?_
  refine next_in ?_
  refine seq_in ?_
  refine ops_in ?_
  refine sts_ok 5 (s' := ⟨[(9, (.d (.b (decide (p0.kind = p1))))), (8, (.d (.b (decide (p0.kind = p1))))), (7, (.d (.i .i64 p1))), (6, (.d (.i .i64 p0.kind))), (5, (.ptr 2 0)), (4, (.d (.b false))), (2, (.ptr 2 0)), (0, (vGValue p0)), (1, (.d (.i .i64 p1)))], [(2, [(.d (.i .i64 p0.kind)), (.d (.i .i64 p0.num)), (.d (.s (bs p0.text)))])]⟩) (by kernel_rfl) ?_
  refine gp_step (p := true) (b := (decide (p0.kind = p1))) (v' := (vGValue p0)) (by kernel_rfl) rfl rfl (fun hc => vop_val1 (by kernel_rfl) (by kernel_rfl)) ?_
  refine gcall_step (p := true) (b := (decide (p0.kind = p1))) (m := sL6Null p0) (dflt := default) (args := [(vGValue p0)]) (v' := (fun y => (.d (.b y)))) h (by kernel_rfl) (OK_sL6Null p0) (fun hc => by kernel_rfl) (by kernel_rfl) (fun _ => rfl) (fun hc => (Eq.trans (b := ([(true && ((decide (p0.kind = p1)) == false))] : List Bool).all id) (by kernel_rfl) (all_c hc rfl))) ?_
  clear h; intro y1 h
  refine p_step (v' := (.d (.b (if (decide (p0.kind = p1)) = true then true else y1)))) rfl rfl (vop_pick (b := (decide (p0.kind = p1))) (p := true) (u := true) (q := (true && ((decide (p0.kind = p1)) == false))) (v := y1) (by kernel_rfl) (by kernel_rfl) (by kernel_rfl) (by kernel_rfl) (fun _ => rfl) (fun hb => gc_f rfl hb)) ?_
  refine sts_ok 1 (s' := ⟨[(4, (.d (.b (if (decide (p0.kind = p1)) = true then true else y1)))), (12, (.d (.b (if (decide (p0.kind = p1)) = true then true else y1)))), (11, (.ite (true && ((decide (p0.kind = p1)) == false)) (.d (.b y1)))), (10, (.ite (true && ((decide (p0.kind = p1)) == false)) (vGValue p0))), (9, (.d (.b (decide (p0.kind = p1))))), (8, (.d (.b (decide (p0.kind = p1))))), (7, (.d (.i .i64 p1))), (6, (.d (.i .i64 p0.kind))), (5, (.ptr 2 0)), (4, (.d (.b false))), (2, (.ptr 2 0)), (0, (vGValue p0)), (1, (.d (.i .i64 p1)))], [(2, [(.d (.i .i64 p0.kind)), (.d (.i .i64 p0.num)), (.d (.s (bs p0.text)))])]⟩) (by kernel_rfl) ?_
  refine nil_in ?_
  refine next_in ?_
  refine ret_in ?_
  have h := Option.some.inj h; subst h
  exact ret1_step (v := (.d (.b (if (decide (p0.kind = p1)) = true then true else y1)))) (by kernel_rfl) (by kernel_rfl) (by kernel_rfl)
theorem OK_sL6Logic (p0 : Int) (p1 : GValue) (p2 : GValue) : FOk Try.prog 123 [(.d (.i .i64 p0)), (vGValue p1), (vGValue p2)] (fun y => (.tup [(vGValue y.1), (.d (.i .i64 y.2))])) (sL6Logic p0 p1 p2) := by
  intro r h
  rw [sL6Logic] at h
  refine acalls_of_fn trsL6Logic (Nat.le_of_ble_eq_true rfl) (by simp) ?_
  show avc Try.prog acsL6Logic (qsL6Logic _) ⟨[(0, (.d (.i .i64 p0))), (1, (vGValue p1)), (2, (vGValue p2))], []⟩
  delta acsL6Logic
  refine seq_in ?_
  refine ops_in ?_
  refine sts_ok 4 (s' := ⟨[(7, (.d (.i .i64 0))), (6, (.ptr 6 0)), (5, (.ptr 5 0)), (4, (.ptr 4 0)), (0, (.d (.i .i64 p0))), (1, (vGValue p1)), (2, (vGValue p2))], [(6, [(.d (.i .i64 0)), (.d (.i .i64 0)), (.d (.s (bs [])))]), (5, [(.d (.i .i64 p2.kind)), (.d (.i .i64 p2.num)), (.d (.s (bs p2.text)))]), (4, [(.d (.i .i64 p1.kind)), (.d (.i .i64 p1.num)), (.d (.s (bs p1.text)))])]⟩) (by kernel_rfl) ?_
  refine nil_in ?_
  refine next_in ?_
  refine seq_in ?_
  refine seq_in ?_
  refine ops_in ?_
  refine sts_ok 1 (s' := ⟨[(9, (vGValue p1)), (7, (.d (.i .i64 0))), (6, (.ptr 6 0)), (5, (.ptr 5 0)), (4, (.ptr 4 0)), (0, (.d (.i .i64 p0))), (1, (vGValue p1)), (2, (vGValue p2))], [(6, [(.d (.i .i64 0)), (.d (.i .i64 0)), (.d (.s (bs [])))]), (5, [(.d (.i .i64 p2.kind)), (.d (.i .i64 p2.num)), (.d (.s (bs p2.text)))]), (4, [(.d (.i .i64 p1.kind)), (.d (.i .i64 p1.num)), (.d (.s (bs p1.text)))])]⟩) (by kernel_rfl) ?_
  refine call_step (m := sL6Is p1 3) (args := [(vGValue p1), (.d (.i .i64 3))]) (v' := (fun y => (.d (.b y)))) h (OK_sL6Is p1 3) (by kernel_rfl) (by kernel_rfl) (fun _ => rfl) ?_
  clear h; intro y1 h
  refine sts_ok 2 (s' := ⟨[(12, (.d (.b (!y1)))), (11, (.d (.b (!y1)))), (10, (.d (.b y1))), (9, (vGValue p1)), (7, (.d (.i .i64 0))), (6, (.ptr 6 0)), (5, (.ptr 5 0)), (4, (.ptr 4 0)), (0, (.d (.i .i64 p0))), (1, (vGValue p1)), (2, (vGValue p2))], [(6, [(.d (.i .i64 0)), (.d (.i .i64 0)), (.d (.s (bs [])))]), (5, [(.d (.i .i64 p2.kind)), (.d (.i .i64 p2.num)), (.d (.s (bs p2.text)))]), (4, [(.d (.i .i64 p1.kind)), (.d (.i .i64 p1.num)), (.d (.s (bs p1.text)))])]⟩) (by kernel_rfl) ?_
  refine gp_step (p := true) (b := (!y1)) (v' := (vGValue p2)) (by kernel_rfl) rfl rfl (fun hc => vop_val1 (by kernel_rfl) (by kernel_rfl)) ?_
  refine gcall_step (p := true) (b := (!y1)) (m := sL6Is p2 3) (dflt := default) (args := [(vGValue p2), (.d (.i .i64 3))]) (v' := (fun y => (.d (.b y)))) h (by kernel_rfl) (OK_sL6Is p2 3) (fun hc => by kernel_rfl) (by kernel_rfl) (fun _ => rfl) (fun hc => (Eq.trans (b := ([(true && ((!y1) == false))] : List Bool).all id) (by kernel_rfl) (all_c hc rfl))) ?_
  clear h; intro y2 h
  refine gp_step (p := true) (b := (!y1)) (v' := (.d (.b (!y2)))) (by kernel_rfl) rfl rfl (fun hc => vop_val1 (Eq.trans (b := ([(true && ((!y1) == false))] : List Bool).all id) (by kernel_rfl) (all_c hc rfl)) (by kernel_rfl)) ?_
  refine p_step (v' := (.d (.b (if (!y1) = true then true else (!y2))))) rfl rfl (vop_pick (b := (!y1)) (p := true) (u := true) (q := (true && ((!y1) == false))) (v := (!y2)) (by kernel_rfl) (by kernel_rfl) (by kernel_rfl) (by kernel_rfl) (fun _ => rfl) (fun hb => gc_f rfl hb)) ?_
  refine nil_in ?_
  refine next_in ?_
  refine cond_step h (by kernel_rfl) ?_ ?_
  · clear h; intro h
    refine seq_in ?_
    refine ops_in ?_
    refine sts_ok 3 (s' := ⟨[(7, (.d (.i .i64 1))), (17, (vGValue (GValue.mk 0 0 []))), (16, (.d (.b (if (!y1) = true then true else (!y2))))), (15, (.ite (true && ((!y1) == false)) (.d (.b (!y2))))), (14, (.ite (true && ((!y1) == false)) (.d (.b y2)))), (13, (.ite (true && ((!y1) == false)) (vGValue p2))), (12, (.d (.b (!y1)))), (11, (.d (.b (!y1)))), (10, (.d (.b y1))), (9, (vGValue p1)), (7, (.d (.i .i64 0))), (6, (.ptr 6 0)), (5, (.ptr 5 0)), (4, (.ptr 4 0)), (0, (.d (.i .i64 p0))), (1, (vGValue p1)), (2, (vGValue p2))], [(6, [(.d (.i .i64 0)), (.d (.i .i64 0)), (.d (.s (bs [])))]), (5, [(.d (.i .i64 p2.kind)), (.d (.i .i64 p2.num)), (.d (.s (bs p2.text)))]), (4, [(.d (.i .i64 p1.kind)), (.d (.i .i64 p1.num)), (.d (.s (bs p1.text)))])]⟩) (by kernel_rfl) ?_
    refine nil_in ?_
    refine next_in ?_
    refine ret_in ?_
    refine thenK_ret ?_
    have h := Option.some.inj h; subst h
    exact retn_step (vs := [(vGValue (GValue.mk 0 0 [])), (.d (.i .i64 1))]) (by kernel_rfl) (by kernel_rfl)
  · clear h; intro h
    refine skip_in ?_
    refine next_in ?_
    refine seq_in ?_
    refine ops_in ?_
    refine sts_ok 2 (s' := ⟨[(19, (.d (.b (decide (p0 = 1))))), (18, (.d (.i .i64 p0))), (16, (.d (.b (if (!y1) = true then true else (!y2))))), (15, (.ite (true && ((!y1) == false)) (.d (.b (!y2))))), (14, (.ite (true && ((!y1) == false)) (.d (.b y2)))), (13, (.ite (true && ((!y1) == false)) (vGValue p2))), (12, (.d (.b (!y1)))), (11, (.d (.b (!y1)))), (10, (.d (.b y1))), (9, (vGValue p1)), (7, (.d (.i .i64 0))), (6, (.ptr 6 0)), (5, (.ptr 5 0)), (4, (.ptr 4 0)), (0, (.d (.i .i64 p0))), (1, (vGValue p1)), (2, (vGValue p2))], [(6, [(.d (.i .i64 0)), (.d (.i .i64 0)), (.d (.s (bs [])))]), (5, [(.d (.i .i64 p2.kind)), (.d (.i .i64 p2.num)), (.d (.s (bs p2.text)))]), (4, [(.d (.i .i64 p1.kind)), (.d (.i .i64 p1.num)), (.d (.s (bs p1.text)))])]⟩) (by kernel_rfl) ?_
    refine call_step (m := sBoolValue (decide (p0 = 1))) (args := [(.d (.b (decide (p0 = 1))))]) (v' := (fun y => (vGValue y))) h (OK_sBoolValue (decide (p0 = 1))) (by kernel_rfl) (by kernel_rfl) (fun _ => rfl) ?_
    clear h; intro y3 h
    refine sts_ok 2 (s' := ⟨[(8, (.ptr 8 0)), (20, (vGValue y3)), (19, (.d (.b (decide (p0 = 1))))), (18, (.d (.i .i64 p0))), (16, (.d (.b (if (!y1) = true then true else (!y2))))), (15, (.ite (true && ((!y1) == false)) (.d (.b (!y2))))), (14, (.ite (true && ((!y1) == false)) (.d (.b y2)))), (13, (.ite (true && ((!y1) == false)) (vGValue p2))), (12, (.d (.b (!y1)))), (11, (.d (.b (!y1)))), (10, (.d (.b y1))), (9, (vGValue p1)), (7, (.d (.i .i64 0))), (6, (.ptr 6 0)), (5, (.ptr 5 0)), (4, (.ptr 4 0)), (0, (.d (.i .i64 p0))), (1, (vGValue p1)), (2, (vGValue p2))], [(8, [(.d (.i .i64 y3.kind)), (.d (.i .i64 y3.num)), (.d (.s (bs y3.text)))]), (6, [(.d (.i .i64 0)), (.d (.i .i64 0)), (.d (.s (bs [])))]), (5, [(.d (.i .i64 p2.kind)), (.d (.i .i64 p2.num)), (.d (.s (bs p2.text)))]), (4, [(.d (.i .i64 p1.kind)), (.d (.i .i64 p1.num)), (.d (.s (bs p1.text)))])]⟩) (by kernel_rfl) ?_
    refine nil_in ?_
    refine next_in ?_
    refine seq_in ?_
    refine seq_in ?_
    refine ops_in ?_
    refine sts_ok 4 (s' := ⟨[(24, (.d (.b ((decide (p1.kind = y3.kind)) && ((decide (p1.num = y3.num)) && ((decide (p1.text = y3.text)) && true)))))), (23, (.d (.b ((decide (p1.kind = y3.kind)) && ((decide (p1.num = y3.num)) && ((decide (p1.text = y3.text)) && true)))))), (22, (vGValue y3)), (21, (vGValue p1)), (8, (.ptr 8 0)), (20, (vGValue y3)), (19, (.d (.b (decide (p0 = 1))))), (18, (.d (.i .i64 p0))), (16, (.d (.b (if (!y1) = true then true else (!y2))))), (15, (.ite (true && ((!y1) == false)) (.d (.b (!y2))))), (14, (.ite (true && ((!y1) == false)) (.d (.b y2)))), (13, (.ite (true && ((!y1) == false)) (vGValue p2))), (12, (.d (.b (!y1)))), (11, (.d (.b (!y1)))), (10, (.d (.b y1))), (9, (vGValue p1)), (7, (.d (.i .i64 0))), (6, (.ptr 6 0)), (5, (.ptr 5 0)), (4, (.ptr 4 0)), (0, (.d (.i .i64 p0))), (1, (vGValue p1)), (2, (vGValue p2))], [(8, [(.d (.i .i64 y3.kind)), (.d (.i .i64 y3.num)), (.d (.s (bs y3.text)))]), (6, [(.d (.i .i64 0)), (.d (.i .i64 0)), (.d (.s (bs [])))]), (5, [(.d (.i .i64 p2.kind)), (.d (.i .i64 p2.num)), (.d (.s (bs p2.text)))]), (4, [(.d (.i .i64 p1.kind)), (.d (.i .i64 p1.num)), (.d (.s (bs p1.text)))])]⟩) (by kernel_rfl) ?_
    refine gp_step (p := true) (b := ((decide (p1.kind = y3.kind)) && ((decide (p1.num = y3.num)) && ((decide (p1.text = y3.text)) && true)))) (v' := (vGValue p2)) (by kernel_rfl) rfl rfl (fun hc => vop_val1 (by kernel_rfl) (by kernel_rfl)) ?_
    refine gp_step (p := true) (b := ((decide (p1.kind = y3.kind)) && ((decide (p1.num = y3.num)) && ((decide (p1.text = y3.text)) && true)))) (v' := (vGValue y3)) (by kernel_rfl) rfl rfl (fun hc => vop_val1 (by kernel_rfl) (by kernel_rfl)) ?_
    refine gp_step (p := true) (b := ((decide (p1.kind = y3.kind)) && ((decide (p1.num = y3.num)) && ((decide (p1.text = y3.text)) && true)))) (v' := (.d (.b ((decide (p2.kind = y3.kind)) && ((decide (p2.num = y3.num)) && ((decide (p2.text = y3.text)) && true)))))) (by kernel_rfl) rfl rfl (fun hc => vop_val1 (Eq.trans (b := ([(true && (((decide (p1.kind = y3.kind)) && ((decide (p1.num = y3.num)) && ((decide (p1.text = y3.text)) && true))) == false)), (true && (((decide (p1.kind = y3.kind)) && ((decide (p1.num = y3.num)) && ((decide (p1.text = y3.text)) && true))) == false))] : List Bool).all id) (by kernel_rfl) (all_c hc (all_c hc rfl))) (by kernel_rfl)) ?_
    refine p_step (v' := (.d (.b (if ((decide (p1.kind = y3.kind)) && ((decide (p1.num = y3.num)) && ((decide (p1.text = y3.text)) && true))) = true then true else ((decide (p2.kind = y3.kind)) && ((decide (p2.num = y3.num)) && ((decide (p2.text = y3.text)) && true))))))) rfl rfl (vop_pick (b := ((decide (p1.kind = y3.kind)) && ((decide (p1.num = y3.num)) && ((decide (p1.text = y3.text)) && true)))) (p := true) (u := true) (q := (true && (((decide (p1.kind = y3.kind)) && ((decide (p1.num = y3.num)) && ((decide (p1.text = y3.text)) && true))) == false))) (v := ((decide (p2.kind = y3.kind)) && ((decide (p2.num = y3.num)) && ((decide (p2.text = y3.text)) && true)))) (by kernel_rfl) (by kernel_rfl) (by kernel_rfl) (by kernel_rfl) (fun _ => rfl) (fun hb => gc_f rfl hb)) ?_
    refine nil_in ?_
    refine next_in ?_
    refine cond_step h (by kernel_rfl) ?_ ?_
    · clear h; intro h
      refine seq_in ?_
      refine ops_in ?_
      refine sts_ok 3 (s' := ⟨[(7, (.d (.i .i64 0))), (29, (vGValue y3)), (28, (.d (.b (if ((decide (p1.kind = y3.kind)) && ((decide (p1.num = y3.num)) && ((decide (p1.text = y3.text)) && true))) = true then true else ((decide (p2.kind = y3.kind)) && ((decide (p2.num = y3.num)) && ((decide (p2.text = y3.text)) && true))))))), (27, (.ite (true && (((decide (p1.kind = y3.kind)) && ((decide (p1.num = y3.num)) && ((decide (p1.text = y3.text)) && true))) == false)) (.d (.b ((decide (p2.kind = y3.kind)) && ((decide (p2.num = y3.num)) && ((decide (p2.text = y3.text)) && true))))))), (26, (.ite (true && (((decide (p1.kind = y3.kind)) && ((decide (p1.num = y3.num)) && ((decide (p1.text = y3.text)) && true))) == false)) (vGValue y3))), (25, (.ite (true && (((decide (p1.kind = y3.kind)) && ((decide (p1.num = y3.num)) && ((decide (p1.text = y3.text)) && true))) == false)) (vGValue p2))), (24, (.d (.b ((decide (p1.kind = y3.kind)) && ((decide (p1.num = y3.num)) && ((decide (p1.text = y3.text)) && true)))))), (23, (.d (.b ((decide (p1.kind = y3.kind)) && ((decide (p1.num = y3.num)) && ((decide (p1.text = y3.text)) && true)))))), (22, (vGValue y3)), (21, (vGValue p1)), (8, (.ptr 8 0)), (20, (vGValue y3)), (19, (.d (.b (decide (p0 = 1))))), (18, (.d (.i .i64 p0))), (16, (.d (.b (if (!y1) = true then true else (!y2))))), (15, (.ite (true && ((!y1) == false)) (.d (.b (!y2))))), (14, (.ite (true && ((!y1) == false)) (.d (.b y2)))), (13, (.ite (true && ((!y1) == false)) (vGValue p2))), (12, (.d (.b (!y1)))), (11, (.d (.b (!y1)))), (10, (.d (.b y1))), (9, (vGValue p1)), (7, (.d (.i .i64 0))), (6, (.ptr 6 0)), (5, (.ptr 5 0)), (4, (.ptr 4 0)), (0, (.d (.i .i64 p0))), (1, (vGValue p1)), (2, (vGValue p2))], [(8, [(.d (.i .i64 y3.kind)), (.d (.i .i64 y3.num)), (.d (.s (bs y3.text)))]), (6, [(.d (.i .i64 y3.kind)), (.d (.i .i64 y3.num)), (.d (.s (bs y3.text)))]), (5, [(.d (.i .i64 p2.kind)), (.d (.i .i64 p2.num)), (.d (.s (bs p2.text)))]), (4, [(.d (.i .i64 p1.kind)), (.d (.i .i64 p1.num)), (.d (.s (bs p1.text)))])]⟩) (by kernel_rfl) ?_
      refine nil_in ?_
      refine next_in ?_
      refine ret_in ?_
      refine thenK_ret ?_
      have h := Option.some.inj h; subst h
      exact retn_step (vs := [(vGValue y3), (.d (.i .i64 0))]) (by kernel_rfl) (by kernel_rfl)
    · clear h; intro h
      refine skip_in ?_
      refine next_in ?_
      refine seq_in ?_
      refine seq_in ?_
      refine ops_in ?_
      refine sts_ok 1 (s' := ⟨[(30, (vGValue p1)), (28, (.d (.b (if ((decide (p1.kind = y3.kind)) && ((decide (p1.num = y3.num)) && ((decide (p1.text = y3.text)) && true))) = true then true else ((decide (p2.kind = y3.kind)) && ((decide (p2.num = y3.num)) && ((decide (p2.text = y3.text)) && true))))))), (27, (.ite (true && (((decide (p1.kind = y3.kind)) && ((decide (p1.num = y3.num)) && ((decide (p1.text = y3.text)) && true))) == false)) (.d (.b ((decide (p2.kind = y3.kind)) && ((decide (p2.num = y3.num)) && ((decide (p2.text = y3.text)) && true))))))), (26, (.ite (true && (((decide (p1.kind = y3.kind)) && ((decide (p1.num = y3.num)) && ((decide (p1.text = y3.text)) && true))) == false)) (vGValue y3))), (25, (.ite (true && (((decide (p1.kind = y3.kind)) && ((decide (p1.num = y3.num)) && ((decide (p1.text = y3.text)) && true))) == false)) (vGValue p2))), (24, (.d (.b ((decide (p1.kind = y3.kind)) && ((decide (p1.num = y3.num)) && ((decide (p1.text = y3.text)) && true)))))), (23, (.d (.b ((decide (p1.kind = y3.kind)) && ((decide (p1.num = y3.num)) && ((decide (p1.text = y3.text)) && true)))))), (22, (vGValue y3)), (21, (vGValue p1)), (8, (.ptr 8 0)), (20, (vGValue y3)), (19, (.d (.b (decide (p0 = 1))))), (18, (.d (.i .i64 p0))), (16, (.d (.b (if (!y1) = true then true else (!y2))))), (15, (.ite (true && ((!y1) == false)) (.d (.b (!y2))))), (14, (.ite (true && ((!y1) == false)) (.d (.b y2)))), (13, (.ite (true && ((!y1) == false)) (vGValue p2))), (12, (.d (.b (!y1)))), (11, (.d (.b (!y1)))), (10, (.d (.b y1))), (9, (vGValue p1)), (7, (.d (.i .i64 0))), (6, (.ptr 6 0)), (5, (.ptr 5 0)), (4, (.ptr 4 0)), (0, (.d (.i .i64 p0))), (1, (vGValue p1)), (2, (vGValue p2))], [(8, [(.d (.i .i64 y3.kind)), (.d (.i .i64 y3.num)), (.d (.s (bs y3.text)))]), (6, [(.d (.i .i64 0)), (.d (.i .i64 0)), (.d (.s (bs [])))]), (5, [(.d (.i .i64 p2.kind)), (.d (.i .i64 p2.num)), (.d (.s (bs p2.text)))]), (4, [(.d (.i .i64 p1.kind)), (.d (.i .i64 p1.num)), (.d (.s (bs p1.text)))])]⟩) (by kernel_rfl) ?_
      refine call_step (m := sL6Null p1) (args := [(vGValue p1)]) (v' := (fun y => (.d (.b y)))) h (OK_sL6Null p1) (by kernel_rfl) (by kernel_rfl) (fun _ => rfl) ?_
      clear h; intro y4 h
      refine sts_ok 1 (s' := ⟨[(32, (.d (.b y4))), (31, (.d (.b y4))), (30, (vGValue p1)), (28, (.d (.b (if ((decide (p1.kind = y3.kind)) && ((decide (p1.num = y3.num)) && ((decide (p1.text = y3.text)) && true))) = true then true else ((decide (p2.kind = y3.kind)) && ((decide (p2.num = y3.num)) && ((decide (p2.text = y3.text)) && true))))))), (27, (.ite (true && (((decide (p1.kind = y3.kind)) && ((decide (p1.num = y3.num)) && ((decide (p1.text = y3.text)) && true))) == false)) (.d (.b ((decide (p2.kind = y3.kind)) && ((decide (p2.num = y3.num)) && ((decide (p2.text = y3.text)) && true))))))), (26, (.ite (true && (((decide (p1.kind = y3.kind)) && ((decide (p1.num = y3.num)) && ((decide (p1.text = y3.text)) && true))) == false)) (vGValue y3))), (25, (.ite (true && (((decide (p1.kind = y3.kind)) && ((decide (p1.num = y3.num)) && ((decide (p1.text = y3.text)) && true))) == false)) (vGValue p2))), (24, (.d (.b ((decide (p1.kind = y3.kind)) && ((decide (p1.num = y3.num)) && ((decide (p1.text = y3.text)) && true)))))), (23, (.d (.b ((decide (p1.kind = y3.kind)) && ((decide (p1.num = y3.num)) && ((decide (p1.text = y3.text)) && true)))))), (22, (vGValue y3)), (21, (vGValue p1)), (8, (.ptr 8 0)), (20, (vGValue y3)), (19, (.d (.b (decide (p0 = 1))))), (18, (.d (.i .i64 p0))), (16, (.d (.b (if (!y1) = true then true else (!y2))))), (15, (.ite (true && ((!y1) == false)) (.d (.b (!y2))))), (14, (.ite (true && ((!y1) == false)) (.d (.b y2)))), (13, (.ite (true && ((!y1) == false)) (vGValue p2))), (12, (.d (.b (!y1)))), (11, (.d (.b (!y1)))), (10, (.d (.b y1))), (9, (vGValue p1)), (7, (.d (.i .i64 0))), (6, (.ptr 6 0)), (5, (.ptr 5 0)), (4, (.ptr 4 0)), (0, (.d (.i .i64 p0))), (1, (vGValue p1)), (2, (vGValue p2))], [(8, [(.d (.i .i64 y3.kind)), (.d (.i .i64 y3.num)), (.d (.s (bs y3.text)))]), (6, [(.d (.i .i64 0)), (.d (.i .i64 0)), (.d (.s (bs [])))]), (5, [(.d (.i .i64 p2.kind)), (.d (.i .i64 p2.num)), (.d (.s (bs p2.text)))]), (4, [(.d (.i .i64 p1.kind)), (.d (.i .i64 p1.num)), (.d (.s (bs p1.text)))])]⟩) (by kernel_rfl) ?_
      refine gp_step (p := true) (b := y4) (v' := (vGValue p2)) (by kernel_rfl) rfl rfl (fun hc => vop_val1 (by kernel_rfl) (by kernel_rfl)) ?_
      refine gcall_step (p := true) (b := y4) (m := sL6Null p2) (dflt := default) (args := [(vGValue p2)]) (v' := (fun y => (.d (.b y)))) h (by kernel_rfl) (OK_sL6Null p2) (fun hc => by kernel_rfl) (by kernel_rfl) (fun _ => rfl) (fun hc => (Eq.trans (b := ([(true && (y4 == false))] : List Bool).all id) (by kernel_rfl) (all_c hc rfl))) ?_
      clear h; intro y5 h
      refine p_step (v' := (.d (.b (if y4 = true then true else y5)))) rfl rfl (vop_pick (b := y4) (p := true) (u := true) (q := (true && (y4 == false))) (v := y5) (by kernel_rfl) (by kernel_rfl) (by kernel_rfl) (by kernel_rfl) (fun _ => rfl) (fun hb => gc_f rfl hb)) ?_
      refine nil_in ?_
      refine next_in ?_
      refine cond_step h (by kernel_rfl) ?_ ?_
      · clear h; intro h
        refine seq_in ?_
        refine ops_in ?_
        refine sts_ok 3 (s' := ⟨[(7, (.d (.i .i64 0))), (36, (vGValue (GValue.mk 0 0 []))), (35, (.d (.b (if y4 = true then true else y5)))), (34, (.ite (true && (y4 == false)) (.d (.b y5)))), (33, (.ite (true && (y4 == false)) (vGValue p2))), (32, (.d (.b y4))), (31, (.d (.b y4))), (30, (vGValue p1)), (28, (.d (.b (if ((decide (p1.kind = y3.kind)) && ((decide (p1.num = y3.num)) && ((decide (p1.text = y3.text)) && true))) = true then true else ((decide (p2.kind = y3.kind)) && ((decide (p2.num = y3.num)) && ((decide (p2.text = y3.text)) && true))))))), (27, (.ite (true && (((decide (p1.kind = y3.kind)) && ((decide (p1.num = y3.num)) && ((decide (p1.text = y3.text)) && true))) == false)) (.d (.b ((decide (p2.kind = y3.kind)) && ((decide (p2.num = y3.num)) && ((decide (p2.text = y3.text)) && true))))))), (26, (.ite (true && (((decide (p1.kind = y3.kind)) && ((decide (p1.num = y3.num)) && ((decide (p1.text = y3.text)) && true))) == false)) (vGValue y3))), (25, (.ite (true && (((decide (p1.kind = y3.kind)) && ((decide (p1.num = y3.num)) && ((decide (p1.text = y3.text)) && true))) == false)) (vGValue p2))), (24, (.d (.b ((decide (p1.kind = y3.kind)) && ((decide (p1.num = y3.num)) && ((decide (p1.text = y3.text)) && true)))))), (23, (.d (.b ((decide (p1.kind = y3.kind)) && ((decide (p1.num = y3.num)) && ((decide (p1.text = y3.text)) && true)))))), (22, (vGValue y3)), (21, (vGValue p1)), (8, (.ptr 8 0)), (20, (vGValue y3)), (19, (.d (.b (decide (p0 = 1))))), (18, (.d (.i .i64 p0))), (16, (.d (.b (if (!y1) = true then true else (!y2))))), (15, (.ite (true && ((!y1) == false)) (.d (.b (!y2))))), (14, (.ite (true && ((!y1) == false)) (.d (.b y2)))), (13, (.ite (true && ((!y1) == false)) (vGValue p2))), (12, (.d (.b (!y1)))), (11, (.d (.b (!y1)))), (10, (.d (.b y1))), (9, (vGValue p1)), (7, (.d (.i .i64 0))), (6, (.ptr 6 0)), (5, (.ptr 5 0)), (4, (.ptr 4 0)), (0, (.d (.i .i64 p0))), (1, (vGValue p1)), (2, (vGValue p2))], [(8, [(.d (.i .i64 y3.kind)), (.d (.i .i64 y3.num)), (.d (.s (bs y3.text)))]), (6, [(.d (.i .i64 0)), (.d (.i .i64 0)), (.d (.s (bs [])))]), (5, [(.d (.i .i64 p2.kind)), (.d (.i .i64 p2.num)), (.d (.s (bs p2.text)))]), (4, [(.d (.i .i64 p1.kind)), (.d (.i .i64 p1.num)), (.d (.s (bs p1.text)))])]⟩) (by kernel_rfl) ?_
        refine nil_in ?_
        refine next_in ?_
        refine ret_in ?_
        refine thenK_ret ?_
        have h := Option.some.inj h; subst h
        exact retn_step (vs := [(vGValue (GValue.mk 0 0 [])), (.d (.i .i64 0))]) (by kernel_rfl) (by kernel_rfl)
      · clear h; intro h
        refine skip_in ?_
        refine next_in ?_
        refine seq_in ?_
        refine ops_in ?_
        refine sts_ok 2 (s' := ⟨[(38, (.d (.b (decide (p0 = 2))))), (37, (.d (.i .i64 p0))), (35, (.d (.b (if y4 = true then true else y5)))), (34, (.ite (true && (y4 == false)) (.d (.b y5)))), (33, (.ite (true && (y4 == false)) (vGValue p2))), (32, (.d (.b y4))), (31, (.d (.b y4))), (30, (vGValue p1)), (28, (.d (.b (if ((decide (p1.kind = y3.kind)) && ((decide (p1.num = y3.num)) && ((decide (p1.text = y3.text)) && true))) = true then true else ((decide (p2.kind = y3.kind)) && ((decide (p2.num = y3.num)) && ((decide (p2.text = y3.text)) && true))))))), (27, (.ite (true && (((decide (p1.kind = y3.kind)) && ((decide (p1.num = y3.num)) && ((decide (p1.text = y3.text)) && true))) == false)) (.d (.b ((decide (p2.kind = y3.kind)) && ((decide (p2.num = y3.num)) && ((decide (p2.text = y3.text)) && true))))))), (26, (.ite (true && (((decide (p1.kind = y3.kind)) && ((decide (p1.num = y3.num)) && ((decide (p1.text = y3.text)) && true))) == false)) (vGValue y3))), (25, (.ite (true && (((decide (p1.kind = y3.kind)) && ((decide (p1.num = y3.num)) && ((decide (p1.text = y3.text)) && true))) == false)) (vGValue p2))), (24, (.d (.b ((decide (p1.kind = y3.kind)) && ((decide (p1.num = y3.num)) && ((decide (p1.text = y3.text)) && true)))))), (23, (.d (.b ((decide (p1.kind = y3.kind)) && ((decide (p1.num = y3.num)) && ((decide (p1.text = y3.text)) && true)))))), (22, (vGValue y3)), (21, (vGValue p1)), (8, (.ptr 8 0)), (20, (vGValue y3)), (19, (.d (.b (decide (p0 = 1))))), (18, (.d (.i .i64 p0))), (16, (.d (.b (if (!y1) = true then true else (!y2))))), (15, (.ite (true && ((!y1) == false)) (.d (.b (!y2))))), (14, (.ite (true && ((!y1) == false)) (.d (.b y2)))), (13, (.ite (true && ((!y1) == false)) (vGValue p2))), (12, (.d (.b (!y1)))), (11, (.d (.b (!y1)))), (10, (.d (.b y1))), (9, (vGValue p1)), (7, (.d (.i .i64 0))), (6, (.ptr 6 0)), (5, (.ptr 5 0)), (4, (.ptr 4 0)), (0, (.d (.i .i64 p0))), (1, (vGValue p1)), (2, (vGValue p2))], [(8, [(.d (.i .i64 y3.kind)), (.d (.i .i64 y3.num)), (.d (.s (bs y3.text)))]), (6, [(.d (.i .i64 0)), (.d (.i .i64 0)), (.d (.s (bs [])))]), (5, [(.d (.i .i64 p2.kind)), (.d (.i .i64 p2.num)), (.d (.s (bs p2.text)))]), (4, [(.d (.i .i64 p1.kind)), (.d (.i .i64 p1.num)), (.d (.s (bs p1.text)))])]⟩) (by kernel_rfl) ?_
        refine call_step (m := sBoolValue (decide (p0 = 2))) (args := [(.d (.b (decide (p0 = 2))))]) (v' := (fun y => (vGValue y))) h (OK_sBoolValue (decide (p0 = 2))) (by kernel_rfl) (by kernel_rfl) (fun _ => rfl) ?_
        clear h; intro y6 h
        refine sts_ok 2 (s' := ⟨[(7, (.d (.i .i64 0))), (39, (vGValue y6)), (38, (.d (.b (decide (p0 = 2))))), (37, (.d (.i .i64 p0))), (35, (.d (.b (if y4 = true then true else y5)))), (34, (.ite (true && (y4 == false)) (.d (.b y5)))), (33, (.ite (true && (y4 == false)) (vGValue p2))), (32, (.d (.b y4))), (31, (.d (.b y4))), (30, (vGValue p1)), (28, (.d (.b (if ((decide (p1.kind = y3.kind)) && ((decide (p1.num = y3.num)) && ((decide (p1.text = y3.text)) && true))) = true then true else ((decide (p2.kind = y3.kind)) && ((decide (p2.num = y3.num)) && ((decide (p2.text = y3.text)) && true))))))), (27, (.ite (true && (((decide (p1.kind = y3.kind)) && ((decide (p1.num = y3.num)) && ((decide (p1.text = y3.text)) && true))) == false)) (.d (.b ((decide (p2.kind = y3.kind)) && ((decide (p2.num = y3.num)) && ((decide (p2.text = y3.text)) && true))))))), (26, (.ite (true && (((decide (p1.kind = y3.kind)) && ((decide (p1.num = y3.num)) && ((decide (p1.text = y3.text)) && true))) == false)) (vGValue y3))), (25, (.ite (true && (((decide (p1.kind = y3.kind)) && ((decide (p1.num = y3.num)) && ((decide (p1.text = y3.text)) && true))) == false)) (vGValue p2))), (24, (.d (.b ((decide (p1.kind = y3.kind)) && ((decide (p1.num = y3.num)) && ((decide (p1.text = y3.text)) && true)))))), (23, (.d (.b ((decide (p1.kind = y3.kind)) && ((decide (p1.num = y3.num)) && ((decide (p1.text = y3.text)) && true)))))), (22, (vGValue y3)), (21, (vGValue p1)), (8, (.ptr 8 0)), (20, (vGValue y3)), (19, (.d (.b (decide (p0 = 1))))), (18, (.d (.i .i64 p0))), (16, (.d (.b (if (!y1) = true then true else (!y2))))), (15, (.ite (true && ((!y1) == false)) (.d (.b (!y2))))), (14, (.ite (true && ((!y1) == false)) (.d (.b y2)))), (13, (.ite (true && ((!y1) == false)) (vGValue p2))), (12, (.d (.b (!y1)))), (11, (.d (.b (!y1)))), (10, (.d (.b y1))), (9, (vGValue p1)), (7, (.d (.i .i64 0))), (6, (.ptr 6 0)), (5, (.ptr 5 0)), (4, (.ptr 4 0)), (0, (.d (.i .i64 p0))), (1, (vGValue p1)), (2, (vGValue p2))], [(8, [(.d (.i .i64 y3.kind)), (.d (.i .i64 y3.num)), (.d (.s (bs y3.text)))]), (6, [(.d (.i .i64 y6.kind)), (.d (.i .i64 y6.num)), (.d (.s (bs y6.text)))]), (5, [(.d (.i .i64 p2.kind)), (.d (.i .i64 p2.num)), (.d (.s (bs p2.text)))]), (4, [(.d (.i .i64 p1.kind)), (.d (.i .i64 p1.num)), (.d (.s (bs p1.text)))])]⟩) (by kernel_rfl) ?_
        refine nil_in ?_
        refine next_in ?_
        refine ret_in ?_
        have h := Option.some.inj h; subst h
        exact retn_step (vs := [(vGValue y6), (.d (.i .i64 0))]) (by kernel_rfl) (by kernel_rfl)
theorem OK_sL6Types (p0 : Int) (p1 : GValue) (p2 : GValue) : FOk Try.prog 124 [(.d (.i .i64 p0)), (vGValue p1), (vGValue p2)] (fun y => (.d (.b y))) (sL6Types p0 p1 p2) := by
  intro r h
  rw [sL6Types] at h
  refine acalls_of_fn trsL6Types (Nat.le_of_ble_eq_true rfl) (by simp) ?_
  show avc Try.prog acsL6Types (qsL6Types _) ⟨[(0, (.d (.i .i64 p0))), (1, (vGValue p1)), (2, (vGValue p2))], []⟩
  delta acsL6Types
  refine seq_in ?_
  refine ops_in ?_
  refine sts_ok 3 (s' := ⟨[(6, (.d (.b false))), (5, (.ptr 5 0)), (4, (.ptr 4 0)), (0, (.d (.i .i64 p0))), (1, (vGValue p1)), (2, (vGValue p2))], [(5, [(.d (.i .i64 p2.kind)), (.d (.i .i64 p2.num)), (.d (.s (bs p2.text)))]), (4, [(.d (.i .i64 p1.kind)), (.d (.i .i64 p1.num)), (.d (.s (bs p1.text)))])]⟩) (by kernel_rfl) ?_
  refine nil_in ?_
  refine next_in ?_
  refine seq_in ?_
  refine seq_in ?_
  refine ops_in ?_
  refine sts_ok 2 (s' := ⟨[(8, (.d (.b (decide (p0 = 9))))), (7, (.d (.i .i64 p0))), (6, (.d (.b false))), (5, (.ptr 5 0)), (4, (.ptr 4 0)), (0, (.d (.i .i64 p0))), (1, (vGValue p1)), (2, (vGValue p2))], [(5, [(.d (.i .i64 p2.kind)), (.d (.i .i64 p2.num)), (.d (.s (bs p2.text)))]), (4, [(.d (.i .i64 p1.kind)), (.d (.i .i64 p1.num)), (.d (.s (bs p1.text)))])]⟩) (by kernel_rfl) ?_
  refine nil_in ?_
  refine next_in ?_
  refine cond_step h (by kernel_rfl) ?_ ?_
  · clear h; intro h
    refine seq_in ?_
    refine ops_in ?_
    refine sts_ok 1 (s' := ⟨[(9, (vGValue p1)), (8, (.d (.b (decide (p0 = 9))))), (7, (.d (.i .i64 p0))), (6, (.d (.b false))), (5, (.ptr 5 0)), (4, (.ptr 4 0)), (0, (.d (.i .i64 p0))), (1, (vGValue p1)), (2, (vGValue p2))], [(5, [(.d (.i .i64 p2.kind)), (.d (.i .i64 p2.num)), (.d (.s (bs p2.text)))]), (4, [(.d (.i .i64 p1.kind)), (.d (.i .i64 p1.num)), (.d (.s (bs p1.text)))])]⟩) (by kernel_rfl) ?_
    refine call_step (m := sL6Is p1 2) (args := [(vGValue p1), (.d (.i .i64 2))]) (v' := (fun y => (.d (.b y)))) h (OK_sL6Is p1 2) (by kernel_rfl) (by kernel_rfl) (fun _ => rfl) ?_
    clear h; intro y1 h
    refine sts_ok 1 (s' := ⟨[(11, (.d (.b y1))), (10, (.d (.b y1))), (9, (vGValue p1)), (8, (.d (.b (decide (p0 = 9))))), (7, (.d (.i .i64 p0))), (6, (.d (.b false))), (5, (.ptr 5 0)), (4, (.ptr 4 0)), (0, (.d (.i .i64 p0))), (1, (vGValue p1)), (2, (vGValue p2))], [(5, [(.d (.i .i64 p2.kind)), (.d (.i .i64 p2.num)), (.d (.s (bs p2.text)))]), (4, [(.d (.i .i64 p1.kind)), (.d (.i .i64 p1.num)), (.d (.s (bs p1.text)))])]⟩) (by kernel_rfl) ?_
    refine gp_step (p := true) (b := y1) (v' := (vGValue p2)) (by kernel_rfl) rfl rfl (fun hc => vop_val1 (by kernel_rfl) (by kernel_rfl)) ?_
    refine gcall_step (p := true) (b := y1) (m := sL6Is p2 2) (dflt := default) (args := [(vGValue p2), (.d (.i .i64 2))]) (v' := (fun y => (.d (.b y)))) h (by kernel_rfl) (OK_sL6Is p2 2) (fun hc => by kernel_rfl) (by kernel_rfl) (fun _ => rfl) (fun hc => (Eq.trans (b := ([(true && (y1 == true))] : List Bool).all id) (by kernel_rfl) (all_c hc rfl))) ?_
    clear h; intro y2 h
    refine p_step (v' := (.d (.b (if y1 = true then y2 else false)))) rfl rfl (vop_pick (b := y1) (p := (true && (y1 == true))) (u := y2) (q := true) (v := false) (by kernel_rfl) (by kernel_rfl) (by kernel_rfl) (by kernel_rfl) (fun hb => gc_t rfl hb) (fun _ => rfl)) ?_
    refine sts_ok 1 (s' := ⟨[(6, (.d (.b (if y1 = true then y2 else false)))), (14, (.d (.b (if y1 = true then y2 else false)))), (13, (.ite (true && (y1 == true)) (.d (.b y2)))), (12, (.ite (true && (y1 == true)) (vGValue p2))), (11, (.d (.b y1))), (10, (.d (.b y1))), (9, (vGValue p1)), (8, (.d (.b (decide (p0 = 9))))), (7, (.d (.i .i64 p0))), (6, (.d (.b false))), (5, (.ptr 5 0)), (4, (.ptr 4 0)), (0, (.d (.i .i64 p0))), (1, (vGValue p1)), (2, (vGValue p2))], [(5, [(.d (.i .i64 p2.kind)), (.d (.i .i64 p2.num)), (.d (.s (bs p2.text)))]), (4, [(.d (.i .i64 p1.kind)), (.d (.i .i64 p1.num)), (.d (.s (bs p1.text)))])]⟩) (by kernel_rfl) ?_
    refine nil_in ?_
    refine next_in ?_
    refine ret_in ?_
    refine thenK_ret ?_
    have h := Option.some.inj h; subst h
    exact ret1_step (v := (.d (.b (if y1 = true then y2 else false)))) (by kernel_rfl) (by kernel_rfl) (by kernel_rfl)
  · clear h; intro h
    refine skip_in ?_
    refine next_in ?_
    refine seq_in ?_
    refine seq_in ?_
    refine ops_in ?_
    refine sts_ok 2 (s' := ⟨[(16, (.d (.b (decide (10 ≤ p0))))), (15, (.d (.i .i64 p0))), (8, (.d (.b (decide (p0 = 9))))), (7, (.d (.i .i64 p0))), (6, (.d (.b false))), (5, (.ptr 5 0)), (4, (.ptr 4 0)), (0, (.d (.i .i64 p0))), (1, (vGValue p1)), (2, (vGValue p2))], [(5, [(.d (.i .i64 p2.kind)), (.d (.i .i64 p2.num)), (.d (.s (bs p2.text)))]), (4, [(.d (.i .i64 p1.kind)), (.d (.i .i64 p1.num)), (.d (.s (bs p1.text)))])]⟩) (by kernel_rfl) ?_
    refine nil_in ?_
    refine next_in ?_
    refine cond_step h (by kernel_rfl) ?_ ?_
    · clear h; intro h
      refine seq_in ?_
      refine ops_in ?_
      refine sts_ok 1 (s' := ⟨[(17, (vGValue p1)), (16, (.d (.b (decide (10 ≤ p0))))), (15, (.d (.i .i64 p0))), (8, (.d (.b (decide (p0 = 9))))), (7, (.d (.i .i64 p0))), (6, (.d (.b false))), (5, (.ptr 5 0)), (4, (.ptr 4 0)), (0, (.d (.i .i64 p0))), (1, (vGValue p1)), (2, (vGValue p2))], [(5, [(.d (.i .i64 p2.kind)), (.d (.i .i64 p2.num)), (.d (.s (bs p2.text)))]), (4, [(.d (.i .i64 p1.kind)), (.d (.i .i64 p1.num)), (.d (.s (bs p1.text)))])]⟩) (by kernel_rfl) ?_
      refine call_step (m := sL6Is p1 1) (args := [(vGValue p1), (.d (.i .i64 1))]) (v' := (fun y => (.d (.b y)))) h (OK_sL6Is p1 1) (by kernel_rfl) (by kernel_rfl) (fun _ => rfl) ?_
      clear h; intro y3 h
      refine sts_ok 1 (s' := ⟨[(19, (.d (.b y3))), (18, (.d (.b y3))), (17, (vGValue p1)), (16, (.d (.b (decide (10 ≤ p0))))), (15, (.d (.i .i64 p0))), (8, (.d (.b (decide (p0 = 9))))), (7, (.d (.i .i64 p0))), (6, (.d (.b false))), (5, (.ptr 5 0)), (4, (.ptr 4 0)), (0, (.d (.i .i64 p0))), (1, (vGValue p1)), (2, (vGValue p2))], [(5, [(.d (.i .i64 p2.kind)), (.d (.i .i64 p2.num)), (.d (.s (bs p2.text)))]), (4, [(.d (.i .i64 p1.kind)), (.d (.i .i64 p1.num)), (.d (.s (bs p1.text)))])]⟩) (by kernel_rfl) ?_
      refine gp_step (p := true) (b := y3) (v' := (vGValue p2)) (by kernel_rfl) rfl rfl (fun hc => vop_val1 (by kernel_rfl) (by kernel_rfl)) ?_
      refine gcall_step (p := true) (b := y3) (m := sL6Is p2 1) (dflt := default) (args := [(vGValue p2), (.d (.i .i64 1))]) (v' := (fun y => (.d (.b y)))) h (by kernel_rfl) (OK_sL6Is p2 1) (fun hc => by kernel_rfl) (by kernel_rfl) (fun _ => rfl) (fun hc => (Eq.trans (b := ([(true && (y3 == true))] : List Bool).all id) (by kernel_rfl) (all_c hc rfl))) ?_
      clear h; intro y4 h
      refine p_step (v' := (.d (.b (if y3 = true then y4 else false)))) rfl rfl (vop_pick (b := y3) (p := (true && (y3 == true))) (u := y4) (q := true) (v := false) (by kernel_rfl) (by kernel_rfl) (by kernel_rfl) (by kernel_rfl) (fun hb => gc_t rfl hb) (fun _ => rfl)) ?_
      refine sts_ok 1 (s' := ⟨[(6, (.d (.b (if y3 = true then y4 else false)))), (22, (.d (.b (if y3 = true then y4 else false)))), (21, (.ite (true && (y3 == true)) (.d (.b y4)))), (20, (.ite (true && (y3 == true)) (vGValue p2))), (19, (.d (.b y3))), (18, (.d (.b y3))), (17, (vGValue p1)), (16, (.d (.b (decide (10 ≤ p0))))), (15, (.d (.i .i64 p0))), (8, (.d (.b (decide (p0 = 9))))), (7, (.d (.i .i64 p0))), (6, (.d (.b false))), (5, (.ptr 5 0)), (4, (.ptr 4 0)), (0, (.d (.i .i64 p0))), (1, (vGValue p1)), (2, (vGValue p2))], [(5, [(.d (.i .i64 p2.kind)), (.d (.i .i64 p2.num)), (.d (.s (bs p2.text)))]), (4, [(.d (.i .i64 p1.kind)), (.d (.i .i64 p1.num)), (.d (.s (bs p1.text)))])]⟩) (by kernel_rfl) ?_
      refine nil_in ?_
      refine next_in ?_
      refine ret_in ?_
      refine thenK_ret ?_
      have h := Option.some.inj h; subst h
      exact ret1_step (v := (.d (.b (if y3 = true then y4 else false)))) (by kernel_rfl) (by kernel_rfl) (by kernel_rfl)
    · clear h; intro h
      refine skip_in ?_
      refine next_in ?_
      refine seq_in ?_
      refine ops_in ?_
      refine sts_ok 6 (s' := ⟨[(28, (.d (.b (decide (p1.kind = p2.kind))))), (27, (.d (.b (decide (p1.kind = p2.kind))))), (26, (.d (.i .i64 p2.kind))), (25, (.ptr 5 0)), (24, (.d (.i .i64 p1.kind))), (23, (.ptr 4 0)), (16, (.d (.b (decide (10 ≤ p0))))), (15, (.d (.i .i64 p0))), (8, (.d (.b (decide (p0 = 9))))), (7, (.d (.i .i64 p0))), (6, (.d (.b false))), (5, (.ptr 5 0)), (4, (.ptr 4 0)), (0, (.d (.i .i64 p0))), (1, (vGValue p1)), (2, (vGValue p2))], [(5, [(.d (.i .i64 p2.kind)), (.d (.i .i64 p2.num)), (.d (.s (bs p2.text)))]), (4, [(.d (.i .i64 p1.kind)), (.d (.i .i64 p1.num)), (.d (.s (bs p1.text)))])]⟩) (by kernel_rfl) ?_
      refine gp_step (p := true) (b := (decide (p1.kind = p2.kind))) (v' := (vGValue p1)) (by kernel_rfl) rfl rfl (fun hc => vop_val1 (by kernel_rfl) (by kernel_rfl)) ?_
      refine gcall_step (p := true) (b := (decide (p1.kind = p2.kind))) (m := sL6Null p1) (dflt := default) (args := [(vGValue p1)]) (v' := (fun y => (.d (.b y)))) h (by kernel_rfl) (OK_sL6Null p1) (fun hc => by kernel_rfl) (by kernel_rfl) (fun _ => rfl) (fun hc => (Eq.trans (b := ([(true && ((decide (p1.kind = p2.kind)) == false))] : List Bool).all id) (by kernel_rfl) (all_c hc rfl))) ?_
      clear h; intro y5 h
      refine p_step (v' := (.d (.b (if (decide (p1.kind = p2.kind)) = true then true else y5)))) rfl rfl (vop_pick (b := (decide (p1.kind = p2.kind))) (p := true) (u := true) (q := (true && ((decide (p1.kind = p2.kind)) == false))) (v := y5) (by kernel_rfl) (by kernel_rfl) (by kernel_rfl) (by kernel_rfl) (fun _ => rfl) (fun hb => gc_f rfl hb)) ?_
      refine sts_ok 1 (s' := ⟨[(32, (.d (.b (if (decide (p1.kind = p2.kind)) = true then true else y5)))), (31, (.d (.b (if (decide (p1.kind = p2.kind)) = true then true else y5)))), (30, (.ite (true && ((decide (p1.kind = p2.kind)) == false)) (.d (.b y5)))), (29, (.ite (true && ((decide (p1.kind = p2.kind)) == false)) (vGValue p1))), (28, (.d (.b (decide (p1.kind = p2.kind))))), (27, (.d (.b (decide (p1.kind = p2.kind))))), (26, (.d (.i .i64 p2.kind))), (25, (.ptr 5 0)), (24, (.d (.i .i64 p1.kind))), (23, (.ptr 4 0)), (16, (.d (.b (decide (10 ≤ p0))))), (15, (.d (.i .i64 p0))), (8, (.d (.b (decide (p0 = 9))))), (7, (.d (.i .i64 p0))), (6, (.d (.b false))), (5, (.ptr 5 0)), (4, (.ptr 4 0)), (0, (.d (.i .i64 p0))), (1, (vGValue p1)), (2, (vGValue p2))], [(5, [(.d (.i .i64 p2.kind)), (.d (.i .i64 p2.num)), (.d (.s (bs p2.text)))]), (4, [(.d (.i .i64 p1.kind)), (.d (.i .i64 p1.num)), (.d (.s (bs p1.text)))])]⟩) (by kernel_rfl) ?_
      refine gp_step (p := true) (b := (if (decide (p1.kind = p2.kind)) = true then true else y5)) (v' := (vGValue p2)) (by kernel_rfl) rfl rfl (fun hc => vop_val1 (by kernel_rfl) (by kernel_rfl)) ?_
      refine gcall_step (p := true) (b := (if (decide (p1.kind = p2.kind)) = true then true else y5)) (m := sL6Null p2) (dflt := default) (args := [(vGValue p2)]) (v' := (fun y => (.d (.b y)))) h (by kernel_rfl) (OK_sL6Null p2) (fun hc => by kernel_rfl) (by kernel_rfl) (fun _ => rfl) (fun hc => (Eq.trans (b := ([(true && ((if (decide (p1.kind = p2.kind)) = true then true else y5) == false))] : List Bool).all id) (by kernel_rfl) (all_c hc rfl))) ?_
      clear h; intro y6 h
      refine p_step (v' := (.d (.b (if (if (decide (p1.kind = p2.kind)) = true then true else y5) = true then true else y6)))) rfl rfl (vop_pick (b := (if (decide (p1.kind = p2.kind)) = true then true else y5)) (p := true) (u := true) (q := (true && ((if (decide (p1.kind = p2.kind)) = true then true else y5) == false))) (v := y6) (by kernel_rfl) (by kernel_rfl) (by kernel_rfl) (by kernel_rfl) (fun _ => rfl) (fun hb => gc_f rfl hb)) ?_
      refine sts_ok 1 (s' := ⟨[(6, (.d (.b (if (if (decide (p1.kind = p2.kind)) = true then true else y5) = true then true else y6)))), (35, (.d (.b (if (if (decide (p1.kind = p2.kind)) = true then true else y5) = true then true else y6)))), (34, (.ite (true && ((if (decide (p1.kind = p2.kind)) = true then true else y5) == false)) (.d (.b y6)))), (33, (.ite (true && ((if (decide (p1.kind = p2.kind)) = true then true else y5) == false)) (vGValue p2))), (32, (.d (.b (if (decide (p1.kind = p2.kind)) = true then true else y5)))), (31, (.d (.b (if (decide (p1.kind = p2.kind)) = true then true else y5)))), (30, (.ite (true && ((decide (p1.kind = p2.kind)) == false)) (.d (.b y5)))), (29, (.ite (true && ((decide (p1.kind = p2.kind)) == false)) (vGValue p1))), (28, (.d (.b (decide (p1.kind = p2.kind))))), (27, (.d (.b (decide (p1.kind = p2.kind))))), (26, (.d (.i .i64 p2.kind))), (25, (.ptr 5 0)), (24, (.d (.i .i64 p1.kind))), (23, (.ptr 4 0)), (16, (.d (.b (decide (10 ≤ p0))))), (15, (.d (.i .i64 p0))), (8, (.d (.b (decide (p0 = 9))))), (7, (.d (.i .i64 p0))), (6, (.d (.b false))), (5, (.ptr 5 0)), (4, (.ptr 4 0)), (0, (.d (.i .i64 p0))), (1, (vGValue p1)), (2, (vGValue p2))], [(5, [(.d (.i .i64 p2.kind)), (.d (.i .i64 p2.num)), (.d (.s (bs p2.text)))]), (4, [(.d (.i .i64 p1.kind)), (.d (.i .i64 p1.num)), (.d (.s (bs p1.text)))])]⟩) (by kernel_rfl) ?_
      refine nil_in ?_
      refine next_in ?_
      refine ret_in ?_
      have h := Option.some.inj h; subst h
      exact ret1_step (v := (.d (.b (if (if (decide (p1.kind = p2.kind)) = true then true else y5) = true then true else y6)))) (by kernel_rfl) (by kernel_rfl) (by kernel_rfl)
theorem OK_sMulNum (p0 : Int) (p1 : Int) : FOk Try.prog 130 [(.d (.i .i64 p0)), (.d (.i .i64 p1))] (fun y => (.tup [(.d (.i .i64 y.1)), (.d (.b y.2))])) (sMulNum p0 p1) := by
  intro r h
  rw [sMulNum] at h
  refine acalls_of_fn trsMulNum (Nat.le_of_ble_eq_true rfl) (by simp) ?_
  show avc Try.prog acsMulNum (qsMulNum _) ⟨[(0, (.d (.i .i64 p0))), (1, (.d (.i .i64 p1)))], []⟩
  delta acsMulNum
  refine seq_in ?_
  refine ops_in ?_
  refine sts_ok 2 (s' := ⟨[(5, (.d (.b false))), (4, (.d (.i .i64 0))), (0, (.d (.i .i64 p0))), (1, (.d (.i .i64 p1)))], []⟩) (by kernel_rfl) ?_
  refine nil_in ?_
  refine next_in ?_
  refine seq_in ?_
  refine seq_in ?_
  refine ops_in ?_
  refine sts_ok 3 (s' := ⟨[(9, (.d (.b (decide (p0 = 0))))), (8, (.d (.b (decide (p0 = 0))))), (7, (.d (.i .i64 p0))), (5, (.d (.b false))), (4, (.d (.i .i64 0))), (0, (.d (.i .i64 p0))), (1, (.d (.i .i64 p1)))], []⟩) (by kernel_rfl) ?_
  refine gp_step (p := true) (b := (decide (p0 = 0))) (v' := (.d (.i .i64 p1))) (by kernel_rfl) rfl rfl (fun hc => vop_val1 (by kernel_rfl) (by kernel_rfl)) ?_
  refine gp_step (p := true) (b := (decide (p0 = 0))) (v' := (.d (.b (decide (p1 = 0))))) (by kernel_rfl) rfl rfl (fun hc => vop_val1 (Eq.trans (b := ([(true && ((decide (p0 = 0)) == false))] : List Bool).all id) (by kernel_rfl) (all_c hc rfl)) (by kernel_rfl)) ?_
  refine p_step (v' := (.d (.b (if (decide (p0 = 0)) = true then true else (decide (p1 = 0)))))) rfl rfl (vop_pick (b := (decide (p0 = 0))) (p := true) (u := true) (q := (true && ((decide (p0 = 0)) == false))) (v := (decide (p1 = 0))) (by kernel_rfl) (by kernel_rfl) (by kernel_rfl) (by kernel_rfl) (fun _ => rfl) (fun hb => gc_f rfl hb)) ?_
  refine nil_in ?_
  refine next_in ?_
  refine cond_step h (by kernel_rfl) ?_ ?_
  · clear h; intro h
    refine seq_in ?_
    refine ops_in ?_
    refine sts_ok 2 (s' := ⟨[(5, (.d (.b true))), (4, (.d (.i .i64 0))), (12, (.d (.b (if (decide (p0 = 0)) = true then true else (decide (p1 = 0)))))), (11, (.ite (true && ((decide (p0 = 0)) == false)) (.d (.b (decide (p1 = 0)))))), (10, (.ite (true && ((decide (p0 = 0)) == false)) (.d (.i .i64 p1)))), (9, (.d (.b (decide (p0 = 0))))), (8, (.d (.b (decide (p0 = 0))))), (7, (.d (.i .i64 p0))), (5, (.d (.b false))), (4, (.d (.i .i64 0))), (0, (.d (.i .i64 p0))), (1, (.d (.i .i64 p1)))], []⟩) (by kernel_rfl) ?_
    refine nil_in ?_
    refine next_in ?_
    refine ret_in ?_
    refine thenK_ret ?_
    have h := Option.some.inj h; subst h
    exact retn_step (vs := [(.d (.i .i64 0)), (.d (.b true))]) (by kernel_rfl) (by kernel_rfl)
  · clear h; intro h
    refine skip_in ?_
    refine next_in ?_
    refine seq_in ?_
    refine seq_in ?_
    refine ops_in ?_
    refine sts_ok 3 (s' := ⟨[(15, (.d (.b (decide (p0 = (-1)))))), (14, (.d (.b (decide (p0 = (-1)))))), (13, (.d (.i .i64 p0))), (12, (.d (.b (if (decide (p0 = 0)) = true then true else (decide (p1 = 0)))))), (11, (.ite (true && ((decide (p0 = 0)) == false)) (.d (.b (decide (p1 = 0)))))), (10, (.ite (true && ((decide (p0 = 0)) == false)) (.d (.i .i64 p1)))), (9, (.d (.b (decide (p0 = 0))))), (8, (.d (.b (decide (p0 = 0))))), (7, (.d (.i .i64 p0))), (5, (.d (.b false))), (4, (.d (.i .i64 0))), (0, (.d (.i .i64 p0))), (1, (.d (.i .i64 p1)))], []⟩) (by kernel_rfl) ?_
    refine gp_step (p := true) (b := (decide (p0 = (-1)))) (v' := (.d (.i .i64 p1))) (by kernel_rfl) rfl rfl (fun hc => vop_val1 (by kernel_rfl) (by kernel_rfl)) ?_
    refine gp_step (p := true) (b := (decide (p0 = (-1)))) (v' := (.d (.b (decide (p1 = (-9223372036854775808)))))) (by kernel_rfl) rfl rfl (fun hc => vop_val1 (Eq.trans (b := ([(true && ((decide (p0 = (-1))) == true))] : List Bool).all id) (by kernel_rfl) (all_c hc rfl)) (by kernel_rfl)) ?_
    refine p_step (v' := (.d (.b (if (decide (p0 = (-1))) = true then (decide (p1 = (-9223372036854775808))) else false)))) rfl rfl (vop_pick (b := (decide (p0 = (-1)))) (p := (true && ((decide (p0 = (-1))) == true))) (u := (decide (p1 = (-9223372036854775808)))) (q := true) (v := false) (by kernel_rfl) (by kernel_rfl) (by kernel_rfl) (by kernel_rfl) (fun hb => gc_t rfl hb) (fun _ => rfl)) ?_
    refine sts_ok 1 (s' := ⟨[(19, (.d (.b (if (decide (p0 = (-1))) = true then (decide (p1 = (-9223372036854775808))) else false)))), (18, (.d (.b (if (decide (p0 = (-1))) = true then (decide (p1 = (-9223372036854775808))) else false)))), (17, (.ite (true && ((decide (p0 = (-1))) == true)) (.d (.b (decide (p1 = (-9223372036854775808))))))), (16, (.ite (true && ((decide (p0 = (-1))) == true)) (.d (.i .i64 p1)))), (15, (.d (.b (decide (p0 = (-1)))))), (14, (.d (.b (decide (p0 = (-1)))))), (13, (.d (.i .i64 p0))), (12, (.d (.b (if (decide (p0 = 0)) = true then true else (decide (p1 = 0)))))), (11, (.ite (true && ((decide (p0 = 0)) == false)) (.d (.b (decide (p1 = 0)))))), (10, (.ite (true && ((decide (p0 = 0)) == false)) (.d (.i .i64 p1)))), (9, (.d (.b (decide (p0 = 0))))), (8, (.d (.b (decide (p0 = 0))))), (7, (.d (.i .i64 p0))), (5, (.d (.b false))), (4, (.d (.i .i64 0))), (0, (.d (.i .i64 p0))), (1, (.d (.i .i64 p1)))], []⟩) (by kernel_rfl) ?_
    refine gp_step (p := true) (b := (if (decide (p0 = (-1))) = true then (decide (p1 = (-9223372036854775808))) else false)) (v' := (.d (.i .i64 p1))) (by kernel_rfl) rfl rfl (fun hc => vop_val1 (by kernel_rfl) (by kernel_rfl)) ?_
    refine gp_step (p := true) (b := (if (decide (p0 = (-1))) = true then (decide (p1 = (-9223372036854775808))) else false)) (v' := (.d (.b (decide (p1 = (-1)))))) (by kernel_rfl) rfl rfl (fun hc => vop_val1 (Eq.trans (b := ([(true && ((if (decide (p0 = (-1))) = true then (decide (p1 = (-9223372036854775808))) else false) == false))] : List Bool).all id) (by kernel_rfl) (all_c hc rfl)) (by kernel_rfl)) ?_
    refine gp_step (p := true) (b := (if (decide (p0 = (-1))) = true then (decide (p1 = (-9223372036854775808))) else false)) (v' := (.d (.b (decide (p1 = (-1)))))) (by kernel_rfl) rfl rfl (fun hc => vop_val1 (Eq.trans (b := ([(true && ((if (decide (p0 = (-1))) = true then (decide (p1 = (-9223372036854775808))) else false) == false))] : List Bool).all id) (by kernel_rfl) (all_c hc rfl)) (by kernel_rfl)) ?_
    refine gp_step (p := (true && ((if (decide (p0 = (-1))) = true then (decide (p1 = (-9223372036854775808))) else false) == false))) (b := (decide (p1 = (-1)))) (v' := (.d (.i .i64 p0))) (by kernel_rfl) rfl rfl (fun hc => vop_val1 (by kernel_rfl) (by kernel_rfl)) ?_
    refine gp_step (p := (true && ((if (decide (p0 = (-1))) = true then (decide (p1 = (-9223372036854775808))) else false) == false))) (b := (decide (p1 = (-1)))) (v' := (.d (.b (decide (p0 = (-9223372036854775808)))))) (by kernel_rfl) rfl rfl (fun hc => vop_val1 (Eq.trans (b := ([((true && ((if (decide (p0 = (-1))) = true then (decide (p1 = (-9223372036854775808))) else false) == false)) && ((decide (p1 = (-1))) == true))] : List Bool).all id) (by kernel_rfl) (all_c hc rfl)) (by kernel_rfl)) ?_
    refine gp_step (p := true) (b := (if (decide (p0 = (-1))) = true then (decide (p1 = (-9223372036854775808))) else false)) (v' := (.d (.b (if (decide (p1 = (-1))) = true then (decide (p0 = (-9223372036854775808))) else false)))) (by kernel_rfl) rfl rfl (fun hc => vop_pick (b := (decide (p1 = (-1)))) (p := ((true && ((if (decide (p0 = (-1))) = true then (decide (p1 = (-9223372036854775808))) else false) == false)) && ((decide (p1 = (-1))) == true))) (u := (decide (p0 = (-9223372036854775808)))) (q := true) (v := false) (Eq.trans (b := ([(true && ((if (decide (p0 = (-1))) = true then (decide (p1 = (-9223372036854775808))) else false) == false))] : List Bool).all id) (by kernel_rfl) (all_c hc rfl)) (by kernel_rfl) (by kernel_rfl) (by kernel_rfl) (fun hb => gc_t hc hb) (fun _ => rfl)) ?_
    refine p_step (v' := (.d (.b (if (if (decide (p0 = (-1))) = true then (decide (p1 = (-9223372036854775808))) else false) = true then true else (if (decide (p1 = (-1))) = true then (decide (p0 = (-9223372036854775808))) else false))))) rfl rfl (vop_pick (b := (if (decide (p0 = (-1))) = true then (decide (p1 = (-9223372036854775808))) else false)) (p := true) (u := true) (q := (true && ((if (decide (p0 = (-1))) = true then (decide (p1 = (-9223372036854775808))) else false) == false))) (v := (if (decide (p1 = (-1))) = true then (decide (p0 = (-9223372036854775808))) else false)) (by kernel_rfl) (by kernel_rfl) (by kernel_rfl) (by kernel_rfl) (fun _ => rfl) (fun hb => gc_f rfl hb)) ?_
    refine nil_in ?_
    refine next_in ?_
    refine cond_step h (by kernel_rfl) ?_ ?_
    · clear h; intro h
      refine seq_in ?_
      refine ops_in ?_
      refine sts_ok 2 (s' := ⟨[(5, (.d (.b false))), (4, (.d (.i .i64 0))), (26, (.d (.b (if (if (decide (p0 = (-1))) = true then (decide (p1 = (-9223372036854775808))) else false) = true then true else (if (decide (p1 = (-1))) = true then (decide (p0 = (-9223372036854775808))) else false))))), (25, (.ite (true && ((if (decide (p0 = (-1))) = true then (decide (p1 = (-9223372036854775808))) else false) == false)) (.d (.b (if (decide (p1 = (-1))) = true then (decide (p0 = (-9223372036854775808))) else false))))), (24, (.ite ((true && ((if (decide (p0 = (-1))) = true then (decide (p1 = (-9223372036854775808))) else false) == false)) && ((decide (p1 = (-1))) == true)) (.d (.b (decide (p0 = (-9223372036854775808))))))), (23, (.ite ((true && ((if (decide (p0 = (-1))) = true then (decide (p1 = (-9223372036854775808))) else false) == false)) && ((decide (p1 = (-1))) == true)) (.d (.i .i64 p0)))), (22, (.ite (true && ((if (decide (p0 = (-1))) = true then (decide (p1 = (-9223372036854775808))) else false) == false)) (.d (.b (decide (p1 = (-1))))))), (21, (.ite (true && ((if (decide (p0 = (-1))) = true then (decide (p1 = (-9223372036854775808))) else false) == false)) (.d (.b (decide (p1 = (-1))))))), (20, (.ite (true && ((if (decide (p0 = (-1))) = true then (decide (p1 = (-9223372036854775808))) else false) == false)) (.d (.i .i64 p1)))), (19, (.d (.b (if (decide (p0 = (-1))) = true then (decide (p1 = (-9223372036854775808))) else false)))), (18, (.d (.b (if (decide (p0 = (-1))) = true then (decide (p1 = (-9223372036854775808))) else false)))), (17, (.ite (true && ((decide (p0 = (-1))) == true)) (.d (.b (decide (p1 = (-9223372036854775808))))))), (16, (.ite (true && ((decide (p0 = (-1))) == true)) (.d (.i .i64 p1)))), (15, (.d (.b (decide (p0 = (-1)))))), (14, (.d (.b (decide (p0 = (-1)))))), (13, (.d (.i .i64 p0))), (12, (.d (.b (if (decide (p0 = 0)) = true then true else (decide (p1 = 0)))))), (11, (.ite (true && ((decide (p0 = 0)) == false)) (.d (.b (decide (p1 = 0)))))), (10, (.ite (true && ((decide (p0 = 0)) == false)) (.d (.i .i64 p1)))), (9, (.d (.b (decide (p0 = 0))))), (8, (.d (.b (decide (p0 = 0))))), (7, (.d (.i .i64 p0))), (5, (.d (.b false))), (4, (.d (.i .i64 0))), (0, (.d (.i .i64 p0))), (1, (.d (.i .i64 p1)))], []⟩) (by kernel_rfl) ?_
      refine nil_in ?_
      refine next_in ?_
      refine ret_in ?_
      refine thenK_ret ?_
      have h := Option.some.inj h; subst h
      exact retn_step (vs := [(.d (.i .i64 0)), (.d (.b false))]) (by kernel_rfl) (by kernel_rfl)
    · clear h; intro h
      refine skip_in ?_
      refine next_in ?_
      refine seq_in ?_
      refine ops_in ?_
      refine sts_ok 4 (s' := ⟨[(6, (.d (.i .i64 (IntKind.wrap .i64 (p0 * p1))))), (29, (.d (.i .i64 (IntKind.wrap .i64 (p0 * p1))))), (28, (.d (.i .i64 p1))), (27, (.d (.i .i64 p0))), (26, (.d (.b (if (if (decide (p0 = (-1))) = true then (decide (p1 = (-9223372036854775808))) else false) = true then true else (if (decide (p1 = (-1))) = true then (decide (p0 = (-9223372036854775808))) else false))))), (25, (.ite (true && ((if (decide (p0 = (-1))) = true then (decide (p1 = (-9223372036854775808))) else false) == false)) (.d (.b (if (decide (p1 = (-1))) = true then (decide (p0 = (-9223372036854775808))) else false))))), (24, (.ite ((true && ((if (decide (p0 = (-1))) = true then (decide (p1 = (-9223372036854775808))) else false) == false)) && ((decide (p1 = (-1))) == true)) (.d (.b (decide (p0 = (-9223372036854775808))))))), (23, (.ite ((true && ((if (decide (p0 = (-1))) = true then (decide (p1 = (-9223372036854775808))) else false) == false)) && ((decide (p1 = (-1))) == true)) (.d (.i .i64 p0)))), (22, (.ite (true && ((if (decide (p0 = (-1))) = true then (decide (p1 = (-9223372036854775808))) else false) == false)) (.d (.b (decide (p1 = (-1))))))), (21, (.ite (true && ((if (decide (p0 = (-1))) = true then (decide (p1 = (-9223372036854775808))) else false) == false)) (.d (.b (decide (p1 = (-1))))))), (20, (.ite (true && ((if (decide (p0 = (-1))) = true then (decide (p1 = (-9223372036854775808))) else false) == false)) (.d (.i .i64 p1)))), (19, (.d (.b (if (decide (p0 = (-1))) = true then (decide (p1 = (-9223372036854775808))) else false)))), (18, (.d (.b (if (decide (p0 = (-1))) = true then (decide (p1 = (-9223372036854775808))) else false)))), (17, (.ite (true && ((decide (p0 = (-1))) == true)) (.d (.b (decide (p1 = (-9223372036854775808))))))), (16, (.ite (true && ((decide (p0 = (-1))) == true)) (.d (.i .i64 p1)))), (15, (.d (.b (decide (p0 = (-1)))))), (14, (.d (.b (decide (p0 = (-1)))))), (13, (.d (.i .i64 p0))), (12, (.d (.b (if (decide (p0 = 0)) = true then true else (decide (p1 = 0)))))), (11, (.ite (true && ((decide (p0 = 0)) == false)) (.d (.b (decide (p1 = 0)))))), (10, (.ite (true && ((decide (p0 = 0)) == false)) (.d (.i .i64 p1)))), (9, (.d (.b (decide (p0 = 0))))), (8, (.d (.b (decide (p0 = 0))))), (7, (.d (.i .i64 p0))), (5, (.d (.b false))), (4, (.d (.i .i64 0))), (0, (.d (.i .i64 p0))), (1, (.d (.i .i64 p1)))], []⟩) (by kernel_rfl) ?_
      refine nil_in ?_
      refine next_in ?_
      refine seq_in ?_
      refine seq_in ?_
      refine ops_in ?_
      refine sts_ok 2 (s' := ⟨[(31, (.d (.i .i64 p1))), (30, (.d (.i .i64 (IntKind.wrap .i64 (p0 * p1))))), (6, (.d (.i .i64 (IntKind.wrap .i64 (p0 * p1))))), (29, (.d (.i .i64 (IntKind.wrap .i64 (p0 * p1))))), (28, (.d (.i .i64 p1))), (27, (.d (.i .i64 p0))), (26, (.d (.b (if (if (decide (p0 = (-1))) = true then (decide (p1 = (-9223372036854775808))) else false) = true then true else (if (decide (p1 = (-1))) = true then (decide (p0 = (-9223372036854775808))) else false))))), (25, (.ite (true && ((if (decide (p0 = (-1))) = true then (decide (p1 = (-9223372036854775808))) else false) == false)) (.d (.b (if (decide (p1 = (-1))) = true then (decide (p0 = (-9223372036854775808))) else false))))), (24, (.ite ((true && ((if (decide (p0 = (-1))) = true then (decide (p1 = (-9223372036854775808))) else false) == false)) && ((decide (p1 = (-1))) == true)) (.d (.b (decide (p0 = (-9223372036854775808))))))), (23, (.ite ((true && ((if (decide (p0 = (-1))) = true then (decide (p1 = (-9223372036854775808))) else false) == false)) && ((decide (p1 = (-1))) == true)) (.d (.i .i64 p0)))), (22, (.ite (true && ((if (decide (p0 = (-1))) = true then (decide (p1 = (-9223372036854775808))) else false) == false)) (.d (.b (decide (p1 = (-1))))))), (21, (.ite (true && ((if (decide (p0 = (-1))) = true then (decide (p1 = (-9223372036854775808))) else false) == false)) (.d (.b (decide (p1 = (-1))))))), (20, (.ite (true && ((if (decide (p0 = (-1))) = true then (decide (p1 = (-9223372036854775808))) else false) == false)) (.d (.i .i64 p1)))), (19, (.d (.b (if (decide (p0 = (-1))) = true then (decide (p1 = (-9223372036854775808))) else false)))), (18, (.d (.b (if (decide (p0 = (-1))) = true then (decide (p1 = (-9223372036854775808))) else false)))), (17, (.ite (true && ((decide (p0 = (-1))) == true)) (.d (.b (decide (p1 = (-9223372036854775808))))))), (16, (.ite (true && ((decide (p0 = (-1))) == true)) (.d (.i .i64 p1)))), (15, (.d (.b (decide (p0 = (-1)))))), (14, (.d (.b (decide (p0 = (-1)))))), (13, (.d (.i .i64 p0))), (12, (.d (.b (if (decide (p0 = 0)) = true then true else (decide (p1 = 0)))))), (11, (.ite (true && ((decide (p0 = 0)) == false)) (.d (.b (decide (p1 = 0)))))), (10, (.ite (true && ((decide (p0 = 0)) == false)) (.d (.i .i64 p1)))), (9, (.d (.b (decide (p0 = 0))))), (8, (.d (.b (decide (p0 = 0))))), (7, (.d (.i .i64 p0))), (5, (.d (.b false))), (4, (.d (.i .i64 0))), (0, (.d (.i .i64 p0))), (1, (.d (.i .i64 p1)))], []⟩) (by kernel_rfl) ?_
      refine v_step (m := quoG .i64 (IntKind.wrap .i64 (p0 * p1)) p1) (v' := fun y => (.d (.i .i64 y))) h rfl rfl (fun y hy => vop_quo (k := .i64) (a := (IntKind.wrap .i64 (p0 * p1))) (b := p1) hy (by kernel_rfl) (by kernel_rfl) (by kernel_rfl)) ?_
      clear h; intro y1 h
      refine sts_ok 2 (s' := ⟨[(34, (.d (.b (!decide (y1 = p0))))), (33, (.d (.i .i64 p0))), (32, (.d (.i .i64 y1))), (31, (.d (.i .i64 p1))), (30, (.d (.i .i64 (IntKind.wrap .i64 (p0 * p1))))), (6, (.d (.i .i64 (IntKind.wrap .i64 (p0 * p1))))), (29, (.d (.i .i64 (IntKind.wrap .i64 (p0 * p1))))), (28, (.d (.i .i64 p1))), (27, (.d (.i .i64 p0))), (26, (.d (.b (if (if (decide (p0 = (-1))) = true then (decide (p1 = (-9223372036854775808))) else false) = true then true else (if (decide (p1 = (-1))) = true then (decide (p0 = (-9223372036854775808))) else false))))), (25, (.ite (true && ((if (decide (p0 = (-1))) = true then (decide (p1 = (-9223372036854775808))) else false) == false)) (.d (.b (if (decide (p1 = (-1))) = true then (decide (p0 = (-9223372036854775808))) else false))))), (24, (.ite ((true && ((if (decide (p0 = (-1))) = true then (decide (p1 = (-9223372036854775808))) else false) == false)) && ((decide (p1 = (-1))) == true)) (.d (.b (decide (p0 = (-9223372036854775808))))))), (23, (.ite ((true && ((if (decide (p0 = (-1))) = true then (decide (p1 = (-9223372036854775808))) else false) == false)) && ((decide (p1 = (-1))) == true)) (.d (.i .i64 p0)))), (22, (.ite (true && ((if (decide (p0 = (-1))) = true then (decide (p1 = (-9223372036854775808))) else false) == false)) (.d (.b (decide (p1 = (-1))))))), (21, (.ite (true && ((if (decide (p0 = (-1))) = true then (decide (p1 = (-9223372036854775808))) else false) == false)) (.d (.b (decide (p1 = (-1))))))), (20, (.ite (true && ((if (decide (p0 = (-1))) = true then (decide (p1 = (-9223372036854775808))) else false) == false)) (.d (.i .i64 p1)))), (19, (.d (.b (if (decide (p0 = (-1))) = true then (decide (p1 = (-9223372036854775808))) else false)))), (18, (.d (.b (if (decide (p0 = (-1))) = true then (decide (p1 = (-9223372036854775808))) else false)))), (17, (.ite (true && ((decide (p0 = (-1))) == true)) (.d (.b (decide (p1 = (-9223372036854775808))))))), (16, (.ite (true && ((decide (p0 = (-1))) == true)) (.d (.i .i64 p1)))), (15, (.d (.b (decide (p0 = (-1)))))), (14, (.d (.b (decide (p0 = (-1)))))), (13, (.d (.i .i64 p0))), (12, (.d (.b (if (decide (p0 = 0)) = true then true else (decide (p1 = 0)))))), (11, (.ite (true && ((decide (p0 = 0)) == false)) (.d (.b (decide (p1 = 0)))))), (10, (.ite (true && ((decide (p0 = 0)) == false)) (.d (.i .i64 p1)))), (9, (.d (.b (decide (p0 = 0))))), (8, (.d (.b (decide (p0 = 0))))), (7, (.d (.i .i64 p0))), (5, (.d (.b false))), (4, (.d (.i .i64 0))), (0, (.d (.i .i64 p0))), (1, (.d (.i .i64 p1)))], []⟩) (by kernel_rfl) ?_
      refine nil_in ?_
      refine next_in ?_
      refine cond_step h (by kernel_rfl) ?_ ?_
      · clear h; intro h
        refine seq_in ?_
        refine ops_in ?_
        refine sts_ok 2 (s' := ⟨[(5, (.d (.b false))), (4, (.d (.i .i64 0))), (34, (.d (.b (!decide (y1 = p0))))), (33, (.d (.i .i64 p0))), (32, (.d (.i .i64 y1))), (31, (.d (.i .i64 p1))), (30, (.d (.i .i64 (IntKind.wrap .i64 (p0 * p1))))), (6, (.d (.i .i64 (IntKind.wrap .i64 (p0 * p1))))), (29, (.d (.i .i64 (IntKind.wrap .i64 (p0 * p1))))), (28, (.d (.i .i64 p1))), (27, (.d (.i .i64 p0))), (26, (.d (.b (if (if (decide (p0 = (-1))) = true then (decide (p1 = (-9223372036854775808))) else false) = true then true else (if (decide (p1 = (-1))) = true then (decide (p0 = (-9223372036854775808))) else false))))), (25, (.ite (true && ((if (decide (p0 = (-1))) = true then (decide (p1 = (-9223372036854775808))) else false) == false)) (.d (.b (if (decide (p1 = (-1))) = true then (decide (p0 = (-9223372036854775808))) else false))))), (24, (.ite ((true && ((if (decide (p0 = (-1))) = true then (decide (p1 = (-9223372036854775808))) else false) == false)) && ((decide (p1 = (-1))) == true)) (.d (.b (decide (p0 = (-9223372036854775808))))))), (23, (.ite ((true && ((if (decide (p0 = (-1))) = true then (decide (p1 = (-9223372036854775808))) else false) == false)) && ((decide (p1 = (-1))) == true)) (.d (.i .i64 p0)))), (22, (.ite (true && ((if (decide (p0 = (-1))) = true then (decide (p1 = (-9223372036854775808))) else false) == false)) (.d (.b (decide (p1 = (-1))))))), (21, (.ite (true && ((if (decide (p0 = (-1))) = true then (decide (p1 = (-9223372036854775808))) else false) == false)) (.d (.b (decide (p1 = (-1))))))), (20, (.ite (true && ((if (decide (p0 = (-1))) = true then (decide (p1 = (-9223372036854775808))) else false) == false)) (.d (.i .i64 p1)))), (19, (.d (.b (if (decide (p0 = (-1))) = true then (decide (p1 = (-9223372036854775808))) else false)))), (18, (.d (.b (if (decide (p0 = (-1))) = true then (decide (p1 = (-9223372036854775808))) else false)))), (17, (.ite (true && ((decide (p0 = (-1))) == true)) (.d (.b (decide (p1 = (-9223372036854775808))))))), (16, (.ite (true && ((decide (p0 = (-1))) == true)) (.d (.i .i64 p1)))), (15, (.d (.b (decide (p0 = (-1)))))), (14, (.d (.b (decide (p0 = (-1)))))), (13, (.d (.i .i64 p0))), (12, (.d (.b (if (decide (p0 = 0)) = true then true else (decide (p1 = 0)))))), (11, (.ite (true && ((decide (p0 = 0)) == false)) (.d (.b (decide (p1 = 0)))))), (10, (.ite (true && ((decide (p0 = 0)) == false)) (.d (.i .i64 p1)))), (9, (.d (.b (decide (p0 = 0))))), (8, (.d (.b (decide (p0 = 0))))), (7, (.d (.i .i64 p0))), (5, (.d (.b false))), (4, (.d (.i .i64 0))), (0, (.d (.i .i64 p0))), (1, (.d (.i .i64 p1)))], []⟩) (by kernel_rfl) ?_
        refine nil_in ?_
        refine next_in ?_
        refine ret_in ?_
        refine thenK_ret ?_
        have h := Option.some.inj h; subst h
        exact retn_step (vs := [(.d (.i .i64 0)), (.d (.b false))]) (by kernel_rfl) (by kernel_rfl)
      · clear h; intro h
        refine skip_in ?_
        refine next_in ?_
        refine seq_in ?_
        refine ops_in ?_
        refine sts_ok 3 (s' := ⟨[(5, (.d (.b true))), (4, (.d (.i .i64 (IntKind.wrap .i64 (p0 * p1))))), (35, (.d (.i .i64 (IntKind.wrap .i64 (p0 * p1))))), (34, (.d (.b (!decide (y1 = p0))))), (33, (.d (.i .i64 p0))), (32, (.d (.i .i64 y1))), (31, (.d (.i .i64 p1))), (30, (.d (.i .i64 (IntKind.wrap .i64 (p0 * p1))))), (6, (.d (.i .i64 (IntKind.wrap .i64 (p0 * p1))))), (29, (.d (.i .i64 (IntKind.wrap .i64 (p0 * p1))))), (28, (.d (.i .i64 p1))), (27, (.d (.i .i64 p0))), (26, (.d (.b (if (if (decide (p0 = (-1))) = true then (decide (p1 = (-9223372036854775808))) else false) = true then true else (if (decide (p1 = (-1))) = true then (decide (p0 = (-9223372036854775808))) else false))))), (25, (.ite (true && ((if (decide (p0 = (-1))) = true then (decide (p1 = (-9223372036854775808))) else false) == false)) (.d (.b (if (decide (p1 = (-1))) = true then (decide (p0 = (-9223372036854775808))) else false))))), (24, (.ite ((true && ((if (decide (p0 = (-1))) = true then (decide (p1 = (-9223372036854775808))) else false) == false)) && ((decide (p1 = (-1))) == true)) (.d (.b (decide (p0 = (-9223372036854775808))))))), (23, (.ite ((true && ((if (decide (p0 = (-1))) = true then (decide (p1 = (-9223372036854775808))) else false) == false)) && ((decide (p1 = (-1))) == true)) (.d (.i .i64 p0)))), (22, (.ite (true && ((if (decide (p0 = (-1))) = true then (decide (p1 = (-9223372036854775808))) else false) == false)) (.d (.b (decide (p1 = (-1))))))), (21, (.ite (true && ((if (decide (p0 = (-1))) = true then (decide (p1 = (-9223372036854775808))) else false) == false)) (.d (.b (decide (p1 = (-1))))))), (20, (.ite (true && ((if (decide (p0 = (-1))) = true then (decide (p1 = (-9223372036854775808))) else false) == false)) (.d (.i .i64 p1)))), (19, (.d (.b (if (decide (p0 = (-1))) = true then (decide (p1 = (-9223372036854775808))) else false)))), (18, (.d (.b (if (decide (p0 = (-1))) = true then (decide (p1 = (-9223372036854775808))) else false)))), (17, (.ite (true && ((decide (p0 = (-1))) == true)) (.d (.b (decide (p1 = (-9223372036854775808))))))), (16, (.ite (true && ((decide (p0 = (-1))) == true)) (.d (.i .i64 p1)))), (15, (.d (.b (decide (p0 = (-1)))))), (14, (.d (.b (decide (p0 = (-1)))))), (13, (.d (.i .i64 p0))), (12, (.d (.b (if (decide (p0 = 0)) = true then true else (decide (p1 = 0)))))), (11, (.ite (true && ((decide (p0 = 0)) == false)) (.d (.b (decide (p1 = 0)))))), (10, (.ite (true && ((decide (p0 = 0)) == false)) (.d (.i .i64 p1)))), (9, (.d (.b (decide (p0 = 0))))), (8, (.d (.b (decide (p0 = 0))))), (7, (.d (.i .i64 p0))), (5, (.d (.b false))), (4, (.d (.i .i64 0))), (0, (.d (.i .i64 p0))), (1, (.d (.i .i64 p1)))], []⟩) (by kernel_rfl) ?_
        refine nil_in ?_
        refine next_in ?_
        refine ret_in ?_
        have h := Option.some.inj h; subst h
        exact retn_step (vs := [(.d (.i .i64 (IntKind.wrap .i64 (p0 * p1)))), (.d (.b true))]) (by kernel_rfl) (by kernel_rfl)
theorem OK_sValueOk (p0 : GValue) : FOk Try.prog 122 [(vGValue p0)] (fun y => (.d (.b y))) (sValueOk p0) := by
  intro r h
  rw [sValueOk] at h
  refine acalls_of_fn trsValueOk (Nat.le_of_ble_eq_true rfl) (by simp) ?_
  show avc Try.prog acsValueOk (qsValueOk _) ⟨[(0, (vGValue p0))], []⟩
  delta acsValueOk
  refine seq_in ?_
  refine ops_in ?_
  refine sts_ok 2 (s' := ⟨[(2, (.d (.b false))), (1, (.ptr 1 0)), (0, (vGValue p0))], [(1, [(.d (.i .i64 p0.kind)), (.d (.i .i64 p0.num)), (.d (.s (bs p0.text)))])]⟩) (by kernel_rfl) ?_
  refine nil_in ?_
  refine next_in ?_
  refine seq_in ?_
  refine seq_in ?_
  refine ops_in ?_
  refine sts_ok 2 (s' := ⟨[(4, (.d (.i .i64 p0.kind))), (3, (.ptr 1 0)), (2, (.d (.b false))), (1, (.ptr 1 0)), (0, (vGValue p0))], [(1, [(.d (.i .i64 p0.kind)), (.d (.i .i64 p0.num)), (.d (.s (bs p0.text)))])]⟩) (by kernel_rfl) ?_
  refine nil_in ?_
  refine next_in ?_
  refine block_in ?_
  refine seq_in ?_
  refine ops_in ?_
  refine sts_ok 2 (s' := ⟨[(5, (.d (.b (decide (p0.kind = 0))))), (6, (.d (.b (decide (p0.kind = 0))))), (4, (.d (.i .i64 p0.kind))), (3, (.ptr 1 0)), (2, (.d (.b false))), (1, (.ptr 1 0)), (0, (vGValue p0))], [(1, [(.d (.i .i64 p0.kind)), (.d (.i .i64 p0.num)), (.d (.s (bs p0.text)))])]⟩) (by kernel_rfl) ?_
  refine nil_in ?_
  refine next_in ?_
  refine cond_step h (by kernel_rfl) ?_ ?_
  · clear h; intro h
    refine seq_in ?_
    refine ops_in ?_
    refine sts_ok 4 (s' := ⟨[(10, (.d (.b (decide (p0.num = 0))))), (9, (.d (.b (decide (p0.num = 0))))), (8, (.d (.i .i64 p0.num))), (7, (.ptr 1 1)), (5, (.d (.b (decide (p0.kind = 0))))), (6, (.d (.b (decide (p0.kind = 0))))), (4, (.d (.i .i64 p0.kind))), (3, (.ptr 1 0)), (2, (.d (.b false))), (1, (.ptr 1 0)), (0, (vGValue p0))], [(1, [(.d (.i .i64 p0.kind)), (.d (.i .i64 p0.num)), (.d (.s (bs p0.text)))])]⟩) (by kernel_rfl) ?_
    refine gp_step (p := true) (b := (decide (p0.num = 0))) (v' := (.ptr 1 2)) (by kernel_rfl) rfl rfl (fun hc => vop_val1 (by kernel_rfl) (by kernel_rfl)) ?_
    refine gp_step (p := true) (b := (decide (p0.num = 0))) (v' := (.d (.s (bs p0.text)))) (by kernel_rfl) rfl rfl (fun hc => vop_val1 (Eq.trans (b := ([(true && ((decide (p0.num = 0)) == true))] : List Bool).all id) (by kernel_rfl) (all_c hc rfl)) (by kernel_rfl)) ?_
    refine gp_step (p := true) (b := (decide (p0.num = 0))) (v' := (.d (.b (decide (p0.text = []))))) (by kernel_rfl) rfl rfl (fun hc => vop_val1 (Eq.trans (b := ([(true && ((decide (p0.num = 0)) == true))] : List Bool).all id) (by kernel_rfl) (all_c hc rfl)) (by kernel_rfl)) ?_
    refine p_step (v' := (.d (.b (if (decide (p0.num = 0)) = true then (decide (p0.text = [])) else false)))) rfl rfl (vop_pick (b := (decide (p0.num = 0))) (p := (true && ((decide (p0.num = 0)) == true))) (u := (decide (p0.text = []))) (q := true) (v := false) (by kernel_rfl) (by kernel_rfl) (by kernel_rfl) (by kernel_rfl) (fun hb => gc_t rfl hb) (fun _ => rfl)) ?_
    refine sts_ok 1 (s' := ⟨[(2, (.d (.b (if (decide (p0.num = 0)) = true then (decide (p0.text = [])) else false)))), (14, (.d (.b (if (decide (p0.num = 0)) = true then (decide (p0.text = [])) else false)))), (13, (.ite (true && ((decide (p0.num = 0)) == true)) (.d (.b (decide (p0.text = [])))))), (12, (.ite (true && ((decide (p0.num = 0)) == true)) (.d (.s (bs p0.text))))), (11, (.ite (true && ((decide (p0.num = 0)) == true)) (.ptr 1 2))), (10, (.d (.b (decide (p0.num = 0))))), (9, (.d (.b (decide (p0.num = 0))))), (8, (.d (.i .i64 p0.num))), (7, (.ptr 1 1)), (5, (.d (.b (decide (p0.kind = 0))))), (6, (.d (.b (decide (p0.kind = 0))))), (4, (.d (.i .i64 p0.kind))), (3, (.ptr 1 0)), (2, (.d (.b false))), (1, (.ptr 1 0)), (0, (vGValue p0))], [(1, [(.d (.i .i64 p0.kind)), (.d (.i .i64 p0.num)), (.d (.s (bs p0.text)))])]⟩) (by kernel_rfl) ?_
    refine nil_in ?_
    refine next_in ?_
    refine ret_in ?_
    refine blockK_ret ?_
    refine thenK_ret ?_
    have h := Option.some.inj h; subst h
    exact ret1_step (v := (.d (.b (if (decide (p0.num = 0)) = true then (decide (p0.text = [])) else false)))) (by kernel_rfl) (by kernel_rfl) (by kernel_rfl)
  · clear h; intro h
    refine seq_in ?_
    refine ops_in ?_
    refine sts_ok 2 (s' := ⟨[(15, (.d (.b (decide (p0.kind = 1))))), (16, (.d (.b (decide (p0.kind = 1))))), (5, (.d (.b (decide (p0.kind = 0))))), (6, (.d (.b (decide (p0.kind = 0))))), (4, (.d (.i .i64 p0.kind))), (3, (.ptr 1 0)), (2, (.d (.b false))), (1, (.ptr 1 0)), (0, (vGValue p0))], [(1, [(.d (.i .i64 p0.kind)), (.d (.i .i64 p0.num)), (.d (.s (bs p0.text)))])]⟩) (by kernel_rfl) ?_
    refine nil_in ?_
    refine next_in ?_
    refine cond_step h (by kernel_rfl) ?_ ?_
    · clear h; intro h
      refine seq_in ?_
      refine ops_in ?_
      refine sts_ok 4 (s' := ⟨[(2, (.d (.b (decide (p0.text = []))))), (19, (.d (.b (decide (p0.text = []))))), (18, (.d (.s (bs p0.text)))), (17, (.ptr 1 2)), (15, (.d (.b (decide (p0.kind = 1))))), (16, (.d (.b (decide (p0.kind = 1))))), (5, (.d (.b (decide (p0.kind = 0))))), (6, (.d (.b (decide (p0.kind = 0))))), (4, (.d (.i .i64 p0.kind))), (3, (.ptr 1 0)), (2, (.d (.b false))), (1, (.ptr 1 0)), (0, (vGValue p0))], [(1, [(.d (.i .i64 p0.kind)), (.d (.i .i64 p0.num)), (.d (.s (bs p0.text)))])]⟩) (by kernel_rfl) ?_
      refine nil_in ?_
      refine next_in ?_
      refine ret_in ?_
      refine blockK_ret ?_
      refine thenK_ret ?_
      have h := Option.some.inj h; subst h
      exact ret1_step (v := (.d (.b (decide (p0.text = []))))) (by kernel_rfl) (by kernel_rfl) (by kernel_rfl)
    · clear h; intro h
      refine seq_in ?_
      refine ops_in ?_
      refine sts_ok 2 (s' := ⟨[(20, (.d (.b (decide (p0.kind = 2))))), (21, (.d (.b (decide (p0.kind = 2))))), (15, (.d (.b (decide (p0.kind = 1))))), (16, (.d (.b (decide (p0.kind = 1))))), (5, (.d (.b (decide (p0.kind = 0))))), (6, (.d (.b (decide (p0.kind = 0))))), (4, (.d (.i .i64 p0.kind))), (3, (.ptr 1 0)), (2, (.d (.b false))), (1, (.ptr 1 0)), (0, (vGValue p0))], [(1, [(.d (.i .i64 p0.kind)), (.d (.i .i64 p0.num)), (.d (.s (bs p0.text)))])]⟩) (by kernel_rfl) ?_
      refine nil_in ?_
      refine next_in ?_
      refine cond_step h (by kernel_rfl) ?_ ?_
      · clear h; intro h
        refine seq_in ?_
        refine ops_in ?_
        refine sts_ok 4 (s' := ⟨[(25, (.d (.b (decide (p0.num = 0))))), (24, (.d (.b (decide (p0.num = 0))))), (23, (.d (.i .i64 p0.num))), (22, (.ptr 1 1)), (20, (.d (.b (decide (p0.kind = 2))))), (21, (.d (.b (decide (p0.kind = 2))))), (15, (.d (.b (decide (p0.kind = 1))))), (16, (.d (.b (decide (p0.kind = 1))))), (5, (.d (.b (decide (p0.kind = 0))))), (6, (.d (.b (decide (p0.kind = 0))))), (4, (.d (.i .i64 p0.kind))), (3, (.ptr 1 0)), (2, (.d (.b false))), (1, (.ptr 1 0)), (0, (vGValue p0))], [(1, [(.d (.i .i64 p0.kind)), (.d (.i .i64 p0.num)), (.d (.s (bs p0.text)))])]⟩) (by kernel_rfl) ?_
        refine gp_step (p := true) (b := (decide (p0.num = 0))) (v' := (.ptr 1 2)) (by kernel_rfl) rfl rfl (fun hc => vop_val1 (by kernel_rfl) (by kernel_rfl)) ?_
        refine gp_step (p := true) (b := (decide (p0.num = 0))) (v' := (.d (.s (bs p0.text)))) (by kernel_rfl) rfl rfl (fun hc => vop_val1 (Eq.trans (b := ([(true && ((decide (p0.num = 0)) == true))] : List Bool).all id) (by kernel_rfl) (all_c hc rfl)) (by kernel_rfl)) ?_
        refine gp_step (p := true) (b := (decide (p0.num = 0))) (v' := (.d (.i .i64 (p0.text.length : Int)))) (by kernel_rfl) rfl rfl (fun hc => vop_val1 (Eq.trans (b := ([(true && ((decide (p0.num = 0)) == true))] : List Bool).all id) (by kernel_rfl) (all_c hc rfl)) (by kernel_rfl)) ?_
        refine gp_step (p := true) (b := (decide (p0.num = 0))) (v' := (.d (.b (decide ((p0.text.length : Int) ≤ 200))))) (by kernel_rfl) rfl rfl (fun hc => vop_val1 (Eq.trans (b := ([(true && ((decide (p0.num = 0)) == true))] : List Bool).all id) (by kernel_rfl) (all_c hc rfl)) (by kernel_rfl)) ?_
        refine p_step (v' := (.d (.b (if (decide (p0.num = 0)) = true then (decide ((p0.text.length : Int) ≤ 200)) else false)))) rfl rfl (vop_pick (b := (decide (p0.num = 0))) (p := (true && ((decide (p0.num = 0)) == true))) (u := (decide ((p0.text.length : Int) ≤ 200))) (q := true) (v := false) (by kernel_rfl) (by kernel_rfl) (by kernel_rfl) (by kernel_rfl) (fun hb => gc_t rfl hb) (fun _ => rfl)) ?_
        refine sts_ok 1 (s' := ⟨[(2, (.d (.b (if (decide (p0.num = 0)) = true then (decide ((p0.text.length : Int) ≤ 200)) else false)))), (30, (.d (.b (if (decide (p0.num = 0)) = true then (decide ((p0.text.length : Int) ≤ 200)) else false)))), (29, (.ite (true && ((decide (p0.num = 0)) == true)) (.d (.b (decide ((p0.text.length : Int) ≤ 200)))))), (28, (.ite (true && ((decide (p0.num = 0)) == true)) (.d (.i .i64 (p0.text.length : Int))))), (27, (.ite (true && ((decide (p0.num = 0)) == true)) (.d (.s (bs p0.text))))), (26, (.ite (true && ((decide (p0.num = 0)) == true)) (.ptr 1 2))), (25, (.d (.b (decide (p0.num = 0))))), (24, (.d (.b (decide (p0.num = 0))))), (23, (.d (.i .i64 p0.num))), (22, (.ptr 1 1)), (20, (.d (.b (decide (p0.kind = 2))))), (21, (.d (.b (decide (p0.kind = 2))))), (15, (.d (.b (decide (p0.kind = 1))))), (16, (.d (.b (decide (p0.kind = 1))))), (5, (.d (.b (decide (p0.kind = 0))))), (6, (.d (.b (decide (p0.kind = 0))))), (4, (.d (.i .i64 p0.kind))), (3, (.ptr 1 0)), (2, (.d (.b false))), (1, (.ptr 1 0)), (0, (vGValue p0))], [(1, [(.d (.i .i64 p0.kind)), (.d (.i .i64 p0.num)), (.d (.s (bs p0.text)))])]⟩) (by kernel_rfl) ?_
        refine nil_in ?_
        refine next_in ?_
        refine ret_in ?_
        refine blockK_ret ?_
        refine thenK_ret ?_
        have h := Option.some.inj h; subst h
        exact ret1_step (v := (.d (.b (if (decide (p0.num = 0)) = true then (decide ((p0.text.length : Int) ≤ 200)) else false)))) (by kernel_rfl) (by kernel_rfl) (by kernel_rfl)
      · clear h; intro h
        refine seq_in ?_
        refine ops_in ?_
        refine sts_ok 2 (s' := ⟨[(31, (.d (.b (decide (p0.kind = 3))))), (32, (.d (.b (decide (p0.kind = 3))))), (20, (.d (.b (decide (p0.kind = 2))))), (21, (.d (.b (decide (p0.kind = 2))))), (15, (.d (.b (decide (p0.kind = 1))))), (16, (.d (.b (decide (p0.kind = 1))))), (5, (.d (.b (decide (p0.kind = 0))))), (6, (.d (.b (decide (p0.kind = 0))))), (4, (.d (.i .i64 p0.kind))), (3, (.ptr 1 0)), (2, (.d (.b false))), (1, (.ptr 1 0)), (0, (vGValue p0))], [(1, [(.d (.i .i64 p0.kind)), (.d (.i .i64 p0.num)), (.d (.s (bs p0.text)))])]⟩) (by kernel_rfl) ?_
        refine nil_in ?_
        refine next_in ?_
        refine cond_step h (by kernel_rfl) ?_ ?_
        · clear h; intro h
          refine seq_in ?_
          refine ops_in ?_
          refine sts_ok 2 (s' := ⟨[(34, (.d (.i .i64 p0.num))), (33, (.ptr 1 1)), (31, (.d (.b (decide (p0.kind = 3))))), (32, (.d (.b (decide (p0.kind = 3))))), (20, (.d (.b (decide (p0.kind = 2))))), (21, (.d (.b (decide (p0.kind = 2))))), (15, (.d (.b (decide (p0.kind = 1))))), (16, (.d (.b (decide (p0.kind = 1))))), (5, (.d (.b (decide (p0.kind = 0))))), (6, (.d (.b (decide (p0.kind = 0))))), (4, (.d (.i .i64 p0.kind))), (3, (.ptr 1 0)), (2, (.d (.b false))), (1, (.ptr 1 0)), (0, (vGValue p0))], [(1, [(.d (.i .i64 p0.kind)), (.d (.i .i64 p0.num)), (.d (.s (bs p0.text)))])]⟩) (by kernel_rfl) ?_
          refine call_step (m := sL1In p0.num 0 1) (args := [(.d (.i .i64 p0.num)), (.d (.i .i64 0)), (.d (.i .i64 1))]) (v' := (fun y => (.d (.b y)))) h (OK_sL1In p0.num 0 1) (by kernel_rfl) (by kernel_rfl) (fun _ => rfl) ?_
          clear h; intro y1 h
          refine sts_ok 1 (s' := ⟨[(36, (.d (.b y1))), (35, (.d (.b y1))), (34, (.d (.i .i64 p0.num))), (33, (.ptr 1 1)), (31, (.d (.b (decide (p0.kind = 3))))), (32, (.d (.b (decide (p0.kind = 3))))), (20, (.d (.b (decide (p0.kind = 2))))), (21, (.d (.b (decide (p0.kind = 2))))), (15, (.d (.b (decide (p0.kind = 1))))), (16, (.d (.b (decide (p0.kind = 1))))), (5, (.d (.b (decide (p0.kind = 0))))), (6, (.d (.b (decide (p0.kind = 0))))), (4, (.d (.i .i64 p0.kind))), (3, (.ptr 1 0)), (2, (.d (.b false))), (1, (.ptr 1 0)), (0, (vGValue p0))], [(1, [(.d (.i .i64 p0.kind)), (.d (.i .i64 p0.num)), (.d (.s (bs p0.text)))])]⟩) (by kernel_rfl) ?_
          refine gp_step (p := true) (b := y1) (v' := (.ptr 1 2)) (by kernel_rfl) rfl rfl (fun hc => vop_val1 (by kernel_rfl) (by kernel_rfl)) ?_
          refine gp_step (p := true) (b := y1) (v' := (.d (.s (bs p0.text)))) (by kernel_rfl) rfl rfl (fun hc => vop_val1 (Eq.trans (b := ([(true && (y1 == true))] : List Bool).all id) (by kernel_rfl) (all_c hc rfl)) (by kernel_rfl)) ?_
          refine gp_step (p := true) (b := y1) (v' := (.d (.b (decide (p0.text = []))))) (by kernel_rfl) rfl rfl (fun hc => vop_val1 (Eq.trans (b := ([(true && (y1 == true))] : List Bool).all id) (by kernel_rfl) (all_c hc rfl)) (by kernel_rfl)) ?_
          refine p_step (v' := (.d (.b (if y1 = true then (decide (p0.text = [])) else false)))) rfl rfl (vop_pick (b := y1) (p := (true && (y1 == true))) (u := (decide (p0.text = []))) (q := true) (v := false) (by kernel_rfl) (by kernel_rfl) (by kernel_rfl) (by kernel_rfl) (fun hb => gc_t rfl hb) (fun _ => rfl)) ?_
          refine sts_ok 1 (s' := ⟨[(2, (.d (.b (if y1 = true then (decide (p0.text = [])) else false)))), (40, (.d (.b (if y1 = true then (decide (p0.text = [])) else false)))), (39, (.ite (true && (y1 == true)) (.d (.b (decide (p0.text = [])))))), (38, (.ite (true && (y1 == true)) (.d (.s (bs p0.text))))), (37, (.ite (true && (y1 == true)) (.ptr 1 2))), (36, (.d (.b y1))), (35, (.d (.b y1))), (34, (.d (.i .i64 p0.num))), (33, (.ptr 1 1)), (31, (.d (.b (decide (p0.kind = 3))))), (32, (.d (.b (decide (p0.kind = 3))))), (20, (.d (.b (decide (p0.kind = 2))))), (21, (.d (.b (decide (p0.kind = 2))))), (15, (.d (.b (decide (p0.kind = 1))))), (16, (.d (.b (decide (p0.kind = 1))))), (5, (.d (.b (decide (p0.kind = 0))))), (6, (.d (.b (decide (p0.kind = 0))))), (4, (.d (.i .i64 p0.kind))), (3, (.ptr 1 0)), (2, (.d (.b false))), (1, (.ptr 1 0)), (0, (vGValue p0))], [(1, [(.d (.i .i64 p0.kind)), (.d (.i .i64 p0.num)), (.d (.s (bs p0.text)))])]⟩) (by kernel_rfl) ?_
          refine nil_in ?_
          refine next_in ?_
          refine ret_in ?_
          refine blockK_ret ?_
          refine thenK_ret ?_
          have h := Option.some.inj h; subst h
          exact ret1_step (v := (.d (.b (if y1 = true then (decide (p0.text = [])) else false)))) (by kernel_rfl) (by kernel_rfl) (by kernel_rfl)
        · clear h; intro h
          refine skip_in ?_
          refine blockK_norm ?_
          refine next_in ?_
          refine seq_in ?_
          refine ops_in ?_
          refine sts_ok 1 (s' := ⟨[(2, (.d (.b false))), (31, (.d (.b (decide (p0.kind = 3))))), (32, (.d (.b (decide (p0.kind = 3))))), (20, (.d (.b (decide (p0.kind = 2))))), (21, (.d (.b (decide (p0.kind = 2))))), (15, (.d (.b (decide (p0.kind = 1))))), (16, (.d (.b (decide (p0.kind = 1))))), (5, (.d (.b (decide (p0.kind = 0))))), (6, (.d (.b (decide (p0.kind = 0))))), (4, (.d (.i .i64 p0.kind))), (3, (.ptr 1 0)), (2, (.d (.b false))), (1, (.ptr 1 0)), (0, (vGValue p0))], [(1, [(.d (.i .i64 p0.kind)), (.d (.i .i64 p0.num)), (.d (.s (bs p0.text)))])]⟩) (by kernel_rfl) ?_
          refine nil_in ?_
          refine next_in ?_
          refine ret_in ?_
          have h := Option.some.inj h; subst h
          exact ret1_step (v := (.d (.b false))) (by kernel_rfl) (by kernel_rfl) (by kernel_rfl)
theorem OK_sCalc (p0 : Int) (p1 : GValue) (p2 : GValue) : FOk Try.prog 66 [(.d (.i .i64 p0)), (vGValue p1), (vGValue p2)] (fun y => (.tup [(vGValue y.1), (.d (.i .i64 y.2))])) (sCalc p0 p1 p2) := by
  intro r h
  rw [sCalc] at h
  refine acalls_of_fn trsCalc (Nat.le_of_ble_eq_true rfl) (by simp) ?_
  show avc Try.prog acsCalc (qsCalc _) ⟨[(0, (.d (.i .i64 p0))), (1, (vGValue p1)), (2, (vGValue p2))], []⟩
  delta acsCalc
  refine seq_in ?_
  refine ops_in ?_
  refine sts_ok 4 (s' := ⟨[(7, (.d (.i .i64 0))), (6, (.ptr 6 0)), (5, (.ptr 5 0)), (4, (.ptr 4 0)), (0, (.d (.i .i64 p0))), (1, (vGValue p1)), (2, (vGValue p2))], [(6, [(.d (.i .i64 0)), (.d (.i .i64 0)), (.d (.s (bs [])))]), (5, [(.d (.i .i64 p2.kind)), (.d (.i .i64 p2.num)), (.d (.s (bs p2.text)))]), (4, [(.d (.i .i64 p1.kind)), (.d (.i .i64 p1.num)), (.d (.s (bs p1.text)))])]⟩) (by kernel_rfl) ?_
  refine nil_in ?_
  refine next_in ?_
  refine seq_in ?_
  refine seq_in ?_
  refine ops_in ?_
  refine sts_ok 1 (s' := ⟨[(14, (.d (.i .i64 p0))), (7, (.d (.i .i64 0))), (6, (.ptr 6 0)), (5, (.ptr 5 0)), (4, (.ptr 4 0)), (0, (.d (.i .i64 p0))), (1, (vGValue p1)), (2, (vGValue p2))], [(6, [(.d (.i .i64 0)), (.d (.i .i64 0)), (.d (.s (bs [])))]), (5, [(.d (.i .i64 p2.kind)), (.d (.i .i64 p2.num)), (.d (.s (bs p2.text)))]), (4, [(.d (.i .i64 p1.kind)), (.d (.i .i64 p1.num)), (.d (.s (bs p1.text)))])]⟩) (by kernel_rfl) ?_
  refine call_step (m := sL1In p0 1 14) (args := [(.d (.i .i64 p0)), (.d (.i .i64 1)), (.d (.i .i64 14))]) (v' := (fun y => (.d (.b y)))) h (OK_sL1In p0 1 14) (by kernel_rfl) (by kernel_rfl) (fun _ => rfl) ?_
  clear h; intro y1 h
  refine sts_ok 2 (s' := ⟨[(17, (.d (.b (!y1)))), (16, (.d (.b (!y1)))), (15, (.d (.b y1))), (14, (.d (.i .i64 p0))), (7, (.d (.i .i64 0))), (6, (.ptr 6 0)), (5, (.ptr 5 0)), (4, (.ptr 4 0)), (0, (.d (.i .i64 p0))), (1, (vGValue p1)), (2, (vGValue p2))], [(6, [(.d (.i .i64 0)), (.d (.i .i64 0)), (.d (.s (bs [])))]), (5, [(.d (.i .i64 p2.kind)), (.d (.i .i64 p2.num)), (.d (.s (bs p2.text)))]), (4, [(.d (.i .i64 p1.kind)), (.d (.i .i64 p1.num)), (.d (.s (bs p1.text)))])]⟩) (by kernel_rfl) ?_
  refine gp_step (p := true) (b := (!y1)) (v' := (vGValue p1)) (by kernel_rfl) rfl rfl (fun hc => vop_val1 (by kernel_rfl) (by kernel_rfl)) ?_
  refine gcall_step (p := true) (b := (!y1)) (m := sValueOk p1) (dflt := default) (args := [(vGValue p1)]) (v' := (fun y => (.d (.b y)))) h (by kernel_rfl) (OK_sValueOk p1) (fun hc => by kernel_rfl) (by kernel_rfl) (fun _ => rfl) (fun hc => (Eq.trans (b := ([(true && ((!y1) == false))] : List Bool).all id) (by kernel_rfl) (all_c hc rfl))) ?_
  clear h; intro y2 h
  refine gp_step (p := true) (b := (!y1)) (v' := (.d (.b (!y2)))) (by kernel_rfl) rfl rfl (fun hc => vop_val1 (Eq.trans (b := ([(true && ((!y1) == false))] : List Bool).all id) (by kernel_rfl) (all_c hc rfl)) (by kernel_rfl)) ?_
  refine p_step (v' := (.d (.b (if (!y1) = true then true else (!y2))))) rfl rfl (vop_pick (b := (!y1)) (p := true) (u := true) (q := (true && ((!y1) == false))) (v := (!y2)) (by kernel_rfl) (by kernel_rfl) (by kernel_rfl) (by kernel_rfl) (fun _ => rfl) (fun hb => gc_f rfl hb)) ?_
  refine sts_ok 1 (s' := ⟨[(22, (.d (.b (if (!y1) = true then true else (!y2))))), (21, (.d (.b (if (!y1) = true then true else (!y2))))), (20, (.ite (true && ((!y1) == false)) (.d (.b (!y2))))), (19, (.ite (true && ((!y1) == false)) (.d (.b y2)))), (18, (.ite (true && ((!y1) == false)) (vGValue p1))), (17, (.d (.b (!y1)))), (16, (.d (.b (!y1)))), (15, (.d (.b y1))), (14, (.d (.i .i64 p0))), (7, (.d (.i .i64 0))), (6, (.ptr 6 0)), (5, (.ptr 5 0)), (4, (.ptr 4 0)), (0, (.d (.i .i64 p0))), (1, (vGValue p1)), (2, (vGValue p2))], [(6, [(.d (.i .i64 0)), (.d (.i .i64 0)), (.d (.s (bs [])))]), (5, [(.d (.i .i64 p2.kind)), (.d (.i .i64 p2.num)), (.d (.s (bs p2.text)))]), (4, [(.d (.i .i64 p1.kind)), (.d (.i .i64 p1.num)), (.d (.s (bs p1.text)))])]⟩) (by kernel_rfl) ?_
  refine gp_step (p := true) (b := (if (!y1) = true then true else (!y2))) (v' := (vGValue p2)) (by kernel_rfl) rfl rfl (fun hc => vop_val1 (by kernel_rfl) (by kernel_rfl)) ?_
  refine gcall_step (p := true) (b := (if (!y1) = true then true else (!y2))) (m := sValueOk p2) (dflt := default) (args := [(vGValue p2)]) (v' := (fun y => (.d (.b y)))) h (by kernel_rfl) (OK_sValueOk p2) (fun hc => by kernel_rfl) (by kernel_rfl) (fun _ => rfl) (fun hc => (Eq.trans (b := ([(true && ((if (!y1) = true then true else (!y2)) == false))] : List Bool).all id) (by kernel_rfl) (all_c hc rfl))) ?_
  clear h; intro y3 h
  refine gp_step (p := true) (b := (if (!y1) = true then true else (!y2))) (v' := (.d (.b (!y3)))) (by kernel_rfl) rfl rfl (fun hc => vop_val1 (Eq.trans (b := ([(true && ((if (!y1) = true then true else (!y2)) == false))] : List Bool).all id) (by kernel_rfl) (all_c hc rfl)) (by kernel_rfl)) ?_
  refine p_step (v' := (.d (.b (if (if (!y1) = true then true else (!y2)) = true then true else (!y3))))) rfl rfl (vop_pick (b := (if (!y1) = true then true else (!y2))) (p := true) (u := true) (q := (true && ((if (!y1) = true then true else (!y2)) == false))) (v := (!y3)) (by kernel_rfl) (by kernel_rfl) (by kernel_rfl) (by kernel_rfl) (fun _ => rfl) (fun hb => gc_f rfl hb)) ?_
  refine nil_in ?_
  refine next_in ?_
  refine cond_step h (by kernel_rfl) ?_ ?_
  · clear h; intro h
    refine seq_in ?_
    refine ops_in ?_
    refine sts_ok 3 (s' := ⟨[(7, (.d (.i .i64 1))), (27, (vGValue (GValue.mk 0 0 []))), (26, (.d (.b (if (if (!y1) = true then true else (!y2)) = true then true else (!y3))))), (25, (.ite (true && ((if (!y1) = true then true else (!y2)) == false)) (.d (.b (!y3))))), (24, (.ite (true && ((if (!y1) = true then true else (!y2)) == false)) (.d (.b y3)))), (23, (.ite (true && ((if (!y1) = true then true else (!y2)) == false)) (vGValue p2))), (22, (.d (.b (if (!y1) = true then true else (!y2))))), (21, (.d (.b (if (!y1) = true then true else (!y2))))), (20, (.ite (true && ((!y1) == false)) (.d (.b (!y2))))), (19, (.ite (true && ((!y1) == false)) (.d (.b y2)))), (18, (.ite (true && ((!y1) == false)) (vGValue p1))), (17, (.d (.b (!y1)))), (16, (.d (.b (!y1)))), (15, (.d (.b y1))), (14, (.d (.i .i64 p0))), (7, (.d (.i .i64 0))), (6, (.ptr 6 0)), (5, (.ptr 5 0)), (4, (.ptr 4 0)), (0, (.d (.i .i64 p0))), (1, (vGValue p1)), (2, (vGValue p2))], [(6, [(.d (.i .i64 0)), (.d (.i .i64 0)), (.d (.s (bs [])))]), (5, [(.d (.i .i64 p2.kind)), (.d (.i .i64 p2.num)), (.d (.s (bs p2.text)))]), (4, [(.d (.i .i64 p1.kind)), (.d (.i .i64 p1.num)), (.d (.s (bs p1.text)))])]⟩) (by kernel_rfl) ?_
    refine nil_in ?_
    refine next_in ?_
    refine ret_in ?_
    refine thenK_ret ?_
    have h := Option.some.inj h; subst h
    exact retn_step (vs := [(vGValue (GValue.mk 0 0 [])), (.d (.i .i64 1))]) (by kernel_rfl) (by kernel_rfl)
  · clear h; intro h
    refine skip_in ?_
    refine next_in ?_
    refine seq_in ?_
    refine seq_in ?_
    refine ops_in ?_
    refine sts_ok 2 (s' := ⟨[(29, (.d (.b (decide (p0 ≤ 2))))), (28, (.d (.i .i64 p0))), (26, (.d (.b (if (if (!y1) = true then true else (!y2)) = true then true else (!y3))))), (25, (.ite (true && ((if (!y1) = true then true else (!y2)) == false)) (.d (.b (!y3))))), (24, (.ite (true && ((if (!y1) = true then true else (!y2)) == false)) (.d (.b y3)))), (23, (.ite (true && ((if (!y1) = true then true else (!y2)) == false)) (vGValue p2))), (22, (.d (.b (if (!y1) = true then true else (!y2))))), (21, (.d (.b (if (!y1) = true then true else (!y2))))), (20, (.ite (true && ((!y1) == false)) (.d (.b (!y2))))), (19, (.ite (true && ((!y1) == false)) (.d (.b y2)))), (18, (.ite (true && ((!y1) == false)) (vGValue p1))), (17, (.d (.b (!y1)))), (16, (.d (.b (!y1)))), (15, (.d (.b y1))), (14, (.d (.i .i64 p0))), (7, (.d (.i .i64 0))), (6, (.ptr 6 0)), (5, (.ptr 5 0)), (4, (.ptr 4 0)), (0, (.d (.i .i64 p0))), (1, (vGValue p1)), (2, (vGValue p2))], [(6, [(.d (.i .i64 0)), (.d (.i .i64 0)), (.d (.s (bs [])))]), (5, [(.d (.i .i64 p2.kind)), (.d (.i .i64 p2.num)), (.d (.s (bs p2.text)))]), (4, [(.d (.i .i64 p1.kind)), (.d (.i .i64 p1.num)), (.d (.s (bs p1.text)))])]⟩) (by kernel_rfl) ?_
    refine nil_in ?_
    refine next_in ?_
    refine cond_step h (by kernel_rfl) ?_ ?_
    · clear h; intro h
      refine seq_in ?_
      refine ops_in ?_
      refine sts_ok 3 (s' := ⟨[(32, (vGValue p2)), (31, (vGValue p1)), (30, (.d (.i .i64 p0))), (29, (.d (.b (decide (p0 ≤ 2))))), (28, (.d (.i .i64 p0))), (26, (.d (.b (if (if (!y1) = true then true else (!y2)) = true then true else (!y3))))), (25, (.ite (true && ((if (!y1) = true then true else (!y2)) == false)) (.d (.b (!y3))))), (24, (.ite (true && ((if (!y1) = true then true else (!y2)) == false)) (.d (.b y3)))), (23, (.ite (true && ((if (!y1) = true then true else (!y2)) == false)) (vGValue p2))), (22, (.d (.b (if (!y1) = true then true else (!y2))))), (21, (.d (.b (if (!y1) = true then true else (!y2))))), (20, (.ite (true && ((!y1) == false)) (.d (.b (!y2))))), (19, (.ite (true && ((!y1) == false)) (.d (.b y2)))), (18, (.ite (true && ((!y1) == false)) (vGValue p1))), (17, (.d (.b (!y1)))), (16, (.d (.b (!y1)))), (15, (.d (.b y1))), (14, (.d (.i .i64 p0))), (7, (.d (.i .i64 0))), (6, (.ptr 6 0)), (5, (.ptr 5 0)), (4, (.ptr 4 0)), (0, (.d (.i .i64 p0))), (1, (vGValue p1)), (2, (vGValue p2))], [(6, [(.d (.i .i64 0)), (.d (.i .i64 0)), (.d (.s (bs [])))]), (5, [(.d (.i .i64 p2.kind)), (.d (.i .i64 p2.num)), (.d (.s (bs p2.text)))]), (4, [(.d (.i .i64 p1.kind)), (.d (.i .i64 p1.num)), (.d (.s (bs p1.text)))])]⟩) (by kernel_rfl) ?_
      refine call_step (m := sL6Logic p0 p1 p2) (args := [(.d (.i .i64 p0)), (vGValue p1), (vGValue p2)]) (v' := (fun y => (.tup [(vGValue y.1), (.d (.i .i64 y.2))]))) h (OK_sL6Logic p0 p1 p2) (by kernel_rfl) (by kernel_rfl) (fun _ => rfl) ?_
      clear h; intro y4 h
      refine sts_ok 4 (s' := ⟨[(7, (.d (.i .i64 y4.2))), (35, (.d (.i .i64 y4.2))), (34, (vGValue y4.1)), (33, (.tup [(vGValue y4.1), (.d (.i .i64 y4.2))])), (32, (vGValue p2)), (31, (vGValue p1)), (30, (.d (.i .i64 p0))), (29, (.d (.b (decide (p0 ≤ 2))))), (28, (.d (.i .i64 p0))), (26, (.d (.b (if (if (!y1) = true then true else (!y2)) = true then true else (!y3))))), (25, (.ite (true && ((if (!y1) = true then true else (!y2)) == false)) (.d (.b (!y3))))), (24, (.ite (true && ((if (!y1) = true then true else (!y2)) == false)) (.d (.b y3)))), (23, (.ite (true && ((if (!y1) = true then true else (!y2)) == false)) (vGValue p2))), (22, (.d (.b (if (!y1) = true then true else (!y2))))), (21, (.d (.b (if (!y1) = true then true else (!y2))))), (20, (.ite (true && ((!y1) == false)) (.d (.b (!y2))))), (19, (.ite (true && ((!y1) == false)) (.d (.b y2)))), (18, (.ite (true && ((!y1) == false)) (vGValue p1))), (17, (.d (.b (!y1)))), (16, (.d (.b (!y1)))), (15, (.d (.b y1))), (14, (.d (.i .i64 p0))), (7, (.d (.i .i64 0))), (6, (.ptr 6 0)), (5, (.ptr 5 0)), (4, (.ptr 4 0)), (0, (.d (.i .i64 p0))), (1, (vGValue p1)), (2, (vGValue p2))], [(6, [(.d (.i .i64 y4.1.kind)), (.d (.i .i64 y4.1.num)), (.d (.s (bs y4.1.text)))]), (5, [(.d (.i .i64 p2.kind)), (.d (.i .i64 p2.num)), (.d (.s (bs p2.text)))]), (4, [(.d (.i .i64 p1.kind)), (.d (.i .i64 p1.num)), (.d (.s (bs p1.text)))])]⟩) (by kernel_rfl) ?_
      refine nil_in ?_
      refine next_in ?_
      refine ret_in ?_
      refine thenK_ret ?_
      have h := Option.some.inj h; subst h
      exact retn_step (vs := [(vGValue y4.1), (.d (.i .i64 y4.2))]) (by kernel_rfl) (by kernel_rfl)
    · clear h; intro h
      refine skip_in ?_
      refine next_in ?_
      refine seq_in ?_
      refine seq_in ?_
      refine ops_in ?_
      refine sts_ok 3 (s' := ⟨[(38, (vGValue p2)), (37, (vGValue p1)), (36, (.d (.i .i64 p0))), (29, (.d (.b (decide (p0 ≤ 2))))), (28, (.d (.i .i64 p0))), (26, (.d (.b (if (if (!y1) = true then true else (!y2)) = true then true else (!y3))))), (25, (.ite (true && ((if (!y1) = true then true else (!y2)) == false)) (.d (.b (!y3))))), (24, (.ite (true && ((if (!y1) = true then true else (!y2)) == false)) (.d (.b y3)))), (23, (.ite (true && ((if (!y1) = true then true else (!y2)) == false)) (vGValue p2))), (22, (.d (.b (if (!y1) = true then true else (!y2))))), (21, (.d (.b (if (!y1) = true then true else (!y2))))), (20, (.ite (true && ((!y1) == false)) (.d (.b (!y2))))), (19, (.ite (true && ((!y1) == false)) (.d (.b y2)))), (18, (.ite (true && ((!y1) == false)) (vGValue p1))), (17, (.d (.b (!y1)))), (16, (.d (.b (!y1)))), (15, (.d (.b y1))), (14, (.d (.i .i64 p0))), (7, (.d (.i .i64 0))), (6, (.ptr 6 0)), (5, (.ptr 5 0)), (4, (.ptr 4 0)), (0, (.d (.i .i64 p0))), (1, (vGValue p1)), (2, (vGValue p2))], [(6, [(.d (.i .i64 0)), (.d (.i .i64 0)), (.d (.s (bs [])))]), (5, [(.d (.i .i64 p2.kind)), (.d (.i .i64 p2.num)), (.d (.s (bs p2.text)))]), (4, [(.d (.i .i64 p1.kind)), (.d (.i .i64 p1.num)), (.d (.s (bs p1.text)))])]⟩) (by kernel_rfl) ?_
      refine call_step (m := sL6Types p0 p1 p2) (args := [(.d (.i .i64 p0)), (vGValue p1), (vGValue p2)]) (v' := (fun y => (.d (.b y)))) h (OK_sL6Types p0 p1 p2) (by kernel_rfl) (by kernel_rfl) (fun _ => rfl) ?_
      clear h; intro y5 h
      refine sts_ok 1 (s' := ⟨[(40, (.d (.b (!y5)))), (39, (.d (.b y5))), (38, (vGValue p2)), (37, (vGValue p1)), (36, (.d (.i .i64 p0))), (29, (.d (.b (decide (p0 ≤ 2))))), (28, (.d (.i .i64 p0))), (26, (.d (.b (if (if (!y1) = true then true else (!y2)) = true then true else (!y3))))), (25, (.ite (true && ((if (!y1) = true then true else (!y2)) == false)) (.d (.b (!y3))))), (24, (.ite (true && ((if (!y1) = true then true else (!y2)) == false)) (.d (.b y3)))), (23, (.ite (true && ((if (!y1) = true then true else (!y2)) == false)) (vGValue p2))), (22, (.d (.b (if (!y1) = true then true else (!y2))))), (21, (.d (.b (if (!y1) = true then true else (!y2))))), (20, (.ite (true && ((!y1) == false)) (.d (.b (!y2))))), (19, (.ite (true && ((!y1) == false)) (.d (.b y2)))), (18, (.ite (true && ((!y1) == false)) (vGValue p1))), (17, (.d (.b (!y1)))), (16, (.d (.b (!y1)))), (15, (.d (.b y1))), (14, (.d (.i .i64 p0))), (7, (.d (.i .i64 0))), (6, (.ptr 6 0)), (5, (.ptr 5 0)), (4, (.ptr 4 0)), (0, (.d (.i .i64 p0))), (1, (vGValue p1)), (2, (vGValue p2))], [(6, [(.d (.i .i64 0)), (.d (.i .i64 0)), (.d (.s (bs [])))]), (5, [(.d (.i .i64 p2.kind)), (.d (.i .i64 p2.num)), (.d (.s (bs p2.text)))]), (4, [(.d (.i .i64 p1.kind)), (.d (.i .i64 p1.num)), (.d (.s (bs p1.text)))])]⟩) (by kernel_rfl) ?_
      refine nil_in ?_
      refine next_in ?_
      refine cond_step h (by kernel_rfl) ?_ ?_
      · clear h; intro h
        refine seq_in ?_
        refine ops_in ?_
        refine sts_ok 3 (s' := ⟨[(7, (.d (.i .i64 1))), (41, (vGValue (GValue.mk 0 0 []))), (40, (.d (.b (!y5)))), (39, (.d (.b y5))), (38, (vGValue p2)), (37, (vGValue p1)), (36, (.d (.i .i64 p0))), (29, (.d (.b (decide (p0 ≤ 2))))), (28, (.d (.i .i64 p0))), (26, (.d (.b (if (if (!y1) = true then true else (!y2)) = true then true else (!y3))))), (25, (.ite (true && ((if (!y1) = true then true else (!y2)) == false)) (.d (.b (!y3))))), (24, (.ite (true && ((if (!y1) = true then true else (!y2)) == false)) (.d (.b y3)))), (23, (.ite (true && ((if (!y1) = true then true else (!y2)) == false)) (vGValue p2))), (22, (.d (.b (if (!y1) = true then true else (!y2))))), (21, (.d (.b (if (!y1) = true then true else (!y2))))), (20, (.ite (true && ((!y1) == false)) (.d (.b (!y2))))), (19, (.ite (true && ((!y1) == false)) (.d (.b y2)))), (18, (.ite (true && ((!y1) == false)) (vGValue p1))), (17, (.d (.b (!y1)))), (16, (.d (.b (!y1)))), (15, (.d (.b y1))), (14, (.d (.i .i64 p0))), (7, (.d (.i .i64 0))), (6, (.ptr 6 0)), (5, (.ptr 5 0)), (4, (.ptr 4 0)), (0, (.d (.i .i64 p0))), (1, (vGValue p1)), (2, (vGValue p2))], [(6, [(.d (.i .i64 0)), (.d (.i .i64 0)), (.d (.s (bs [])))]), (5, [(.d (.i .i64 p2.kind)), (.d (.i .i64 p2.num)), (.d (.s (bs p2.text)))]), (4, [(.d (.i .i64 p1.kind)), (.d (.i .i64 p1.num)), (.d (.s (bs p1.text)))])]⟩) (by kernel_rfl) ?_
        refine nil_in ?_
        refine next_in ?_
        refine ret_in ?_
        refine thenK_ret ?_
        have h := Option.some.inj h; subst h
        exact retn_step (vs := [(vGValue (GValue.mk 0 0 [])), (.d (.i .i64 1))]) (by kernel_rfl) (by kernel_rfl)
      · clear h; intro h
        refine skip_in ?_
        refine next_in ?_
        refine seq_in ?_
        refine seq_in ?_
        refine ops_in ?_
        refine sts_ok 1 (s' := ⟨[(42, (vGValue p1)), (40, (.d (.b (!y5)))), (39, (.d (.b y5))), (38, (vGValue p2)), (37, (vGValue p1)), (36, (.d (.i .i64 p0))), (29, (.d (.b (decide (p0 ≤ 2))))), (28, (.d (.i .i64 p0))), (26, (.d (.b (if (if (!y1) = true then true else (!y2)) = true then true else (!y3))))), (25, (.ite (true && ((if (!y1) = true then true else (!y2)) == false)) (.d (.b (!y3))))), (24, (.ite (true && ((if (!y1) = true then true else (!y2)) == false)) (.d (.b y3)))), (23, (.ite (true && ((if (!y1) = true then true else (!y2)) == false)) (vGValue p2))), (22, (.d (.b (if (!y1) = true then true else (!y2))))), (21, (.d (.b (if (!y1) = true then true else (!y2))))), (20, (.ite (true && ((!y1) == false)) (.d (.b (!y2))))), (19, (.ite (true && ((!y1) == false)) (.d (.b y2)))), (18, (.ite (true && ((!y1) == false)) (vGValue p1))), (17, (.d (.b (!y1)))), (16, (.d (.b (!y1)))), (15, (.d (.b y1))), (14, (.d (.i .i64 p0))), (7, (.d (.i .i64 0))), (6, (.ptr 6 0)), (5, (.ptr 5 0)), (4, (.ptr 4 0)), (0, (.d (.i .i64 p0))), (1, (vGValue p1)), (2, (vGValue p2))], [(6, [(.d (.i .i64 0)), (.d (.i .i64 0)), (.d (.s (bs [])))]), (5, [(.d (.i .i64 p2.kind)), (.d (.i .i64 p2.num)), (.d (.s (bs p2.text)))]), (4, [(.d (.i .i64 p1.kind)), (.d (.i .i64 p1.num)), (.d (.s (bs p1.text)))])]⟩) (by kernel_rfl) ?_
        refine call_step (m := sL6Null p1) (args := [(vGValue p1)]) (v' := (fun y => (.d (.b y)))) h (OK_sL6Null p1) (by kernel_rfl) (by kernel_rfl) (fun _ => rfl) ?_
        clear h; intro y6 h
        refine sts_ok 1 (s' := ⟨[(44, (.d (.b y6))), (43, (.d (.b y6))), (42, (vGValue p1)), (40, (.d (.b (!y5)))), (39, (.d (.b y5))), (38, (vGValue p2)), (37, (vGValue p1)), (36, (.d (.i .i64 p0))), (29, (.d (.b (decide (p0 ≤ 2))))), (28, (.d (.i .i64 p0))), (26, (.d (.b (if (if (!y1) = true then true else (!y2)) = true then true else (!y3))))), (25, (.ite (true && ((if (!y1) = true then true else (!y2)) == false)) (.d (.b (!y3))))), (24, (.ite (true && ((if (!y1) = true then true else (!y2)) == false)) (.d (.b y3)))), (23, (.ite (true && ((if (!y1) = true then true else (!y2)) == false)) (vGValue p2))), (22, (.d (.b (if (!y1) = true then true else (!y2))))), (21, (.d (.b (if (!y1) = true then true else (!y2))))), (20, (.ite (true && ((!y1) == false)) (.d (.b (!y2))))), (19, (.ite (true && ((!y1) == false)) (.d (.b y2)))), (18, (.ite (true && ((!y1) == false)) (vGValue p1))), (17, (.d (.b (!y1)))), (16, (.d (.b (!y1)))), (15, (.d (.b y1))), (14, (.d (.i .i64 p0))), (7, (.d (.i .i64 0))), (6, (.ptr 6 0)), (5, (.ptr 5 0)), (4, (.ptr 4 0)), (0, (.d (.i .i64 p0))), (1, (vGValue p1)), (2, (vGValue p2))], [(6, [(.d (.i .i64 0)), (.d (.i .i64 0)), (.d (.s (bs [])))]), (5, [(.d (.i .i64 p2.kind)), (.d (.i .i64 p2.num)), (.d (.s (bs p2.text)))]), (4, [(.d (.i .i64 p1.kind)), (.d (.i .i64 p1.num)), (.d (.s (bs p1.text)))])]⟩) (by kernel_rfl) ?_
        refine gp_step (p := true) (b := y6) (v' := (vGValue p2)) (by kernel_rfl) rfl rfl (fun hc => vop_val1 (by kernel_rfl) (by kernel_rfl)) ?_
        refine gcall_step (p := true) (b := y6) (m := sL6Null p2) (dflt := default) (args := [(vGValue p2)]) (v' := (fun y => (.d (.b y)))) h (by kernel_rfl) (OK_sL6Null p2) (fun hc => by kernel_rfl) (by kernel_rfl) (fun _ => rfl) (fun hc => (Eq.trans (b := ([(true && (y6 == false))] : List Bool).all id) (by kernel_rfl) (all_c hc rfl))) ?_
        clear h; intro y7 h
        refine p_step (v' := (.d (.b (if y6 = true then true else y7)))) rfl rfl (vop_pick (b := y6) (p := true) (u := true) (q := (true && (y6 == false))) (v := y7) (by kernel_rfl) (by kernel_rfl) (by kernel_rfl) (by kernel_rfl) (fun _ => rfl) (fun hb => gc_f rfl hb)) ?_
        refine nil_in ?_
        refine next_in ?_
        refine cond_step h (by kernel_rfl) ?_ ?_
        · clear h; intro h
          refine seq_in ?_
          refine ops_in ?_
          refine sts_ok 3 (s' := ⟨[(7, (.d (.i .i64 0))), (48, (vGValue (GValue.mk 0 0 []))), (47, (.d (.b (if y6 = true then true else y7)))), (46, (.ite (true && (y6 == false)) (.d (.b y7)))), (45, (.ite (true && (y6 == false)) (vGValue p2))), (44, (.d (.b y6))), (43, (.d (.b y6))), (42, (vGValue p1)), (40, (.d (.b (!y5)))), (39, (.d (.b y5))), (38, (vGValue p2)), (37, (vGValue p1)), (36, (.d (.i .i64 p0))), (29, (.d (.b (decide (p0 ≤ 2))))), (28, (.d (.i .i64 p0))), (26, (.d (.b (if (if (!y1) = true then true else (!y2)) = true then true else (!y3))))), (25, (.ite (true && ((if (!y1) = true then true else (!y2)) == false)) (.d (.b (!y3))))), (24, (.ite (true && ((if (!y1) = true then true else (!y2)) == false)) (.d (.b y3)))), (23, (.ite (true && ((if (!y1) = true then true else (!y2)) == false)) (vGValue p2))), (22, (.d (.b (if (!y1) = true then true else (!y2))))), (21, (.d (.b (if (!y1) = true then true else (!y2))))), (20, (.ite (true && ((!y1) == false)) (.d (.b (!y2))))), (19, (.ite (true && ((!y1) == false)) (.d (.b y2)))), (18, (.ite (true && ((!y1) == false)) (vGValue p1))), (17, (.d (.b (!y1)))), (16, (.d (.b (!y1)))), (15, (.d (.b y1))), (14, (.d (.i .i64 p0))), (7, (.d (.i .i64 0))), (6, (.ptr 6 0)), (5, (.ptr 5 0)), (4, (.ptr 4 0)), (0, (.d (.i .i64 p0))), (1, (vGValue p1)), (2, (vGValue p2))], [(6, [(.d (.i .i64 0)), (.d (.i .i64 0)), (.d (.s (bs [])))]), (5, [(.d (.i .i64 p2.kind)), (.d (.i .i64 p2.num)), (.d (.s (bs p2.text)))]), (4, [(.d (.i .i64 p1.kind)), (.d (.i .i64 p1.num)), (.d (.s (bs p1.text)))])]⟩) (by kernel_rfl) ?_
          refine nil_in ?_
          refine next_in ?_
          refine ret_in ?_
          refine thenK_ret ?_
          have h := Option.some.inj h; subst h
          exact retn_step (vs := [(vGValue (GValue.mk 0 0 [])), (.d (.i .i64 0))]) (by kernel_rfl) (by kernel_rfl)
        · clear h; intro h
          refine skip_in ?_
          refine next_in ?_
          refine seq_in ?_
          refine seq_in ?_
          refine ops_in ?_
          refine sts_ok 1 (s' := ⟨[(49, (.d (.i .i64 p0))), (47, (.d (.b (if y6 = true then true else y7)))), (46, (.ite (true && (y6 == false)) (.d (.b y7)))), (45, (.ite (true && (y6 == false)) (vGValue p2))), (44, (.d (.b y6))), (43, (.d (.b y6))), (42, (vGValue p1)), (40, (.d (.b (!y5)))), (39, (.d (.b y5))), (38, (vGValue p2)), (37, (vGValue p1)), (36, (.d (.i .i64 p0))), (29, (.d (.b (decide (p0 ≤ 2))))), (28, (.d (.i .i64 p0))), (26, (.d (.b (if (if (!y1) = true then true else (!y2)) = true then true else (!y3))))), (25, (.ite (true && ((if (!y1) = true then true else (!y2)) == false)) (.d (.b (!y3))))), (24, (.ite (true && ((if (!y1) = true then true else (!y2)) == false)) (.d (.b y3)))), (23, (.ite (true && ((if (!y1) = true then true else (!y2)) == false)) (vGValue p2))), (22, (.d (.b (if (!y1) = true then true else (!y2))))), (21, (.d (.b (if (!y1) = true then true else (!y2))))), (20, (.ite (true && ((!y1) == false)) (.d (.b (!y2))))), (19, (.ite (true && ((!y1) == false)) (.d (.b y2)))), (18, (.ite (true && ((!y1) == false)) (vGValue p1))), (17, (.d (.b (!y1)))), (16, (.d (.b (!y1)))), (15, (.d (.b y1))), (14, (.d (.i .i64 p0))), (7, (.d (.i .i64 0))), (6, (.ptr 6 0)), (5, (.ptr 5 0)), (4, (.ptr 4 0)), (0, (.d (.i .i64 p0))), (1, (vGValue p1)), (2, (vGValue p2))], [(6, [(.d (.i .i64 0)), (.d (.i .i64 0)), (.d (.s (bs [])))]), (5, [(.d (.i .i64 p2.kind)), (.d (.i .i64 p2.num)), (.d (.s (bs p2.text)))]), (4, [(.d (.i .i64 p1.kind)), (.d (.i .i64 p1.num)), (.d (.s (bs p1.text)))])]⟩) (by kernel_rfl) ?_
          refine nil_in ?_
          refine next_in ?_
          refine block_in ?_
          refine seq_in ?_
          refine ops_in ?_
          refine sts_ok 2 (s' := ⟨[(50, (.d (.b (decide (p0 = 9))))), (51, (.d (.b (decide (p0 = 9))))), (49, (.d (.i .i64 p0))), (47, (.d (.b (if y6 = true then true else y7)))), (46, (.ite (true && (y6 == false)) (.d (.b y7)))), (45, (.ite (true && (y6 == false)) (vGValue p2))), (44, (.d (.b y6))), (43, (.d (.b y6))), (42, (vGValue p1)), (40, (.d (.b (!y5)))), (39, (.d (.b y5))), (38, (vGValue p2)), (37, (vGValue p1)), (36, (.d (.i .i64 p0))), (29, (.d (.b (decide (p0 ≤ 2))))), (28, (.d (.i .i64 p0))), (26, (.d (.b (if (if (!y1) = true then true else (!y2)) = true then true else (!y3))))), (25, (.ite (true && ((if (!y1) = true then true else (!y2)) == false)) (.d (.b (!y3))))), (24, (.ite (true && ((if (!y1) = true then true else (!y2)) == false)) (.d (.b y3)))), (23, (.ite (true && ((if (!y1) = true then true else (!y2)) == false)) (vGValue p2))), (22, (.d (.b (if (!y1) = true then true else (!y2))))), (21, (.d (.b (if (!y1) = true then true else (!y2))))), (20, (.ite (true && ((!y1) == false)) (.d (.b (!y2))))), (19, (.ite (true && ((!y1) == false)) (.d (.b y2)))), (18, (.ite (true && ((!y1) == false)) (vGValue p1))), (17, (.d (.b (!y1)))), (16, (.d (.b (!y1)))), (15, (.d (.b y1))), (14, (.d (.i .i64 p0))), (7, (.d (.i .i64 0))), (6, (.ptr 6 0)), (5, (.ptr 5 0)), (4, (.ptr 4 0)), (0, (.d (.i .i64 p0))), (1, (vGValue p1)), (2, (vGValue p2))], [(6, [(.d (.i .i64 0)), (.d (.i .i64 0)), (.d (.s (bs [])))]), (5, [(.d (.i .i64 p2.kind)), (.d (.i .i64 p2.num)), (.d (.s (bs p2.text)))]), (4, [(.d (.i .i64 p1.kind)), (.d (.i .i64 p1.num)), (.d (.s (bs p1.text)))])]⟩) (by kernel_rfl) ?_
          refine nil_in ?_
          refine next_in ?_
          refine cond_step h (by kernel_rfl) ?_ ?_
          · clear h; intro h
            refine seq_in ?_
            refine seq_in ?_
            refine ops_in ?_
            refine sts_ok 8 (s' := ⟨[(59, (.d (.b (decide (200 < (IntKind.wrap .i64 ((p1.text.length : Int) + (p2.text.length : Int)))))))), (58, (.d (.i .i64 (IntKind.wrap .i64 ((p1.text.length : Int) + (p2.text.length : Int)))))), (57, (.d (.i .i64 (p2.text.length : Int)))), (56, (.d (.s (bs p2.text)))), (55, (.ptr 5 2)), (54, (.d (.i .i64 (p1.text.length : Int)))), (53, (.d (.s (bs p1.text)))), (52, (.ptr 4 2)), (50, (.d (.b (decide (p0 = 9))))), (51, (.d (.b (decide (p0 = 9))))), (49, (.d (.i .i64 p0))), (47, (.d (.b (if y6 = true then true else y7)))), (46, (.ite (true && (y6 == false)) (.d (.b y7)))), (45, (.ite (true && (y6 == false)) (vGValue p2))), (44, (.d (.b y6))), (43, (.d (.b y6))), (42, (vGValue p1)), (40, (.d (.b (!y5)))), (39, (.d (.b y5))), (38, (vGValue p2)), (37, (vGValue p1)), (36, (.d (.i .i64 p0))), (29, (.d (.b (decide (p0 ≤ 2))))), (28, (.d (.i .i64 p0))), (26, (.d (.b (if (if (!y1) = true then true else (!y2)) = true then true else (!y3))))), (25, (.ite (true && ((if (!y1) = true then true else (!y2)) == false)) (.d (.b (!y3))))), (24, (.ite (true && ((if (!y1) = true then true else (!y2)) == false)) (.d (.b y3)))), (23, (.ite (true && ((if (!y1) = true then true else (!y2)) == false)) (vGValue p2))), (22, (.d (.b (if (!y1) = true then true else (!y2))))), (21, (.d (.b (if (!y1) = true then true else (!y2))))), (20, (.ite (true && ((!y1) == false)) (.d (.b (!y2))))), (19, (.ite (true && ((!y1) == false)) (.d (.b y2)))), (18, (.ite (true && ((!y1) == false)) (vGValue p1))), (17, (.d (.b (!y1)))), (16, (.d (.b (!y1)))), (15, (.d (.b y1))), (14, (.d (.i .i64 p0))), (7, (.d (.i .i64 0))), (6, (.ptr 6 0)), (5, (.ptr 5 0)), (4, (.ptr 4 0)), (0, (.d (.i .i64 p0))), (1, (vGValue p1)), (2, (vGValue p2))], [(6, [(.d (.i .i64 0)), (.d (.i .i64 0)), (.d (.s (bs [])))]), (5, [(.d (.i .i64 p2.kind)), (.d (.i .i64 p2.num)), (.d (.s (bs p2.text)))]), (4, [(.d (.i .i64 p1.kind)), (.d (.i .i64 p1.num)), (.d (.s (bs p1.text)))])]⟩) (by kernel_rfl) ?_
            refine nil_in ?_
            refine next_in ?_
            refine cond_step h (by kernel_rfl) ?_ ?_
            · clear h; intro h
              refine seq_in ?_
              refine ops_in ?_
              refine sts_ok 3 (s' := ⟨[(7, (.d (.i .i64 2))), (60, (vGValue (GValue.mk 0 0 []))), (59, (.d (.b (decide (200 < (IntKind.wrap .i64 ((p1.text.length : Int) + (p2.text.length : Int)))))))), (58, (.d (.i .i64 (IntKind.wrap .i64 ((p1.text.length : Int) + (p2.text.length : Int)))))), (57, (.d (.i .i64 (p2.text.length : Int)))), (56, (.d (.s (bs p2.text)))), (55, (.ptr 5 2)), (54, (.d (.i .i64 (p1.text.length : Int)))), (53, (.d (.s (bs p1.text)))), (52, (.ptr 4 2)), (50, (.d (.b (decide (p0 = 9))))), (51, (.d (.b (decide (p0 = 9))))), (49, (.d (.i .i64 p0))), (47, (.d (.b (if y6 = true then true else y7)))), (46, (.ite (true && (y6 == false)) (.d (.b y7)))), (45, (.ite (true && (y6 == false)) (vGValue p2))), (44, (.d (.b y6))), (43, (.d (.b y6))), (42, (vGValue p1)), (40, (.d (.b (!y5)))), (39, (.d (.b y5))), (38, (vGValue p2)), (37, (vGValue p1)), (36, (.d (.i .i64 p0))), (29, (.d (.b (decide (p0 ≤ 2))))), (28, (.d (.i .i64 p0))), (26, (.d (.b (if (if (!y1) = true then true else (!y2)) = true then true else (!y3))))), (25, (.ite (true && ((if (!y1) = true then true else (!y2)) == false)) (.d (.b (!y3))))), (24, (.ite (true && ((if (!y1) = true then true else (!y2)) == false)) (.d (.b y3)))), (23, (.ite (true && ((if (!y1) = true then true else (!y2)) == false)) (vGValue p2))), (22, (.d (.b (if (!y1) = true then true else (!y2))))), (21, (.d (.b (if (!y1) = true then true else (!y2))))), (20, (.ite (true && ((!y1) == false)) (.d (.b (!y2))))), (19, (.ite (true && ((!y1) == false)) (.d (.b y2)))), (18, (.ite (true && ((!y1) == false)) (vGValue p1))), (17, (.d (.b (!y1)))), (16, (.d (.b (!y1)))), (15, (.d (.b y1))), (14, (.d (.i .i64 p0))), (7, (.d (.i .i64 0))), (6, (.ptr 6 0)), (5, (.ptr 5 0)), (4, (.ptr 4 0)), (0, (.d (.i .i64 p0))), (1, (vGValue p1)), (2, (vGValue p2))], [(6, [(.d (.i .i64 0)), (.d (.i .i64 0)), (.d (.s (bs [])))]), (5, [(.d (.i .i64 p2.kind)), (.d (.i .i64 p2.num)), (.d (.s (bs p2.text)))]), (4, [(.d (.i .i64 p1.kind)), (.d (.i .i64 p1.num)), (.d (.s (bs p1.text)))])]⟩) (by kernel_rfl) ?_
              refine nil_in ?_
              refine next_in ?_
              refine ret_in ?_
              refine thenK_ret ?_
              refine blockK_ret ?_
              refine thenK_ret ?_
              have h := Option.some.inj h; subst h
              exact retn_step (vs := [(vGValue (GValue.mk 0 0 [])), (.d (.i .i64 2))]) (by kernel_rfl) (by kernel_rfl)
            · clear h; intro h
              refine skip_in ?_
              refine next_in ?_
              refine seq_in ?_
              refine ops_in ?_
              refine sts_ok 4 (s' := ⟨[(64, (.d (.s (bs p2.text)))), (63, (.ptr 5 2)), (62, (.d (.s (bs p1.text)))), (61, (.ptr 4 2)), (59, (.d (.b (decide (200 < (IntKind.wrap .i64 ((p1.text.length : Int) + (p2.text.length : Int)))))))), (58, (.d (.i .i64 (IntKind.wrap .i64 ((p1.text.length : Int) + (p2.text.length : Int)))))), (57, (.d (.i .i64 (p2.text.length : Int)))), (56, (.d (.s (bs p2.text)))), (55, (.ptr 5 2)), (54, (.d (.i .i64 (p1.text.length : Int)))), (53, (.d (.s (bs p1.text)))), (52, (.ptr 4 2)), (50, (.d (.b (decide (p0 = 9))))), (51, (.d (.b (decide (p0 = 9))))), (49, (.d (.i .i64 p0))), (47, (.d (.b (if y6 = true then true else y7)))), (46, (.ite (true && (y6 == false)) (.d (.b y7)))), (45, (.ite (true && (y6 == false)) (vGValue p2))), (44, (.d (.b y6))), (43, (.d (.b y6))), (42, (vGValue p1)), (40, (.d (.b (!y5)))), (39, (.d (.b y5))), (38, (vGValue p2)), (37, (vGValue p1)), (36, (.d (.i .i64 p0))), (29, (.d (.b (decide (p0 ≤ 2))))), (28, (.d (.i .i64 p0))), (26, (.d (.b (if (if (!y1) = true then true else (!y2)) = true then true else (!y3))))), (25, (.ite (true && ((if (!y1) = true then true else (!y2)) == false)) (.d (.b (!y3))))), (24, (.ite (true && ((if (!y1) = true then true else (!y2)) == false)) (.d (.b y3)))), (23, (.ite (true && ((if (!y1) = true then true else (!y2)) == false)) (vGValue p2))), (22, (.d (.b (if (!y1) = true then true else (!y2))))), (21, (.d (.b (if (!y1) = true then true else (!y2))))), (20, (.ite (true && ((!y1) == false)) (.d (.b (!y2))))), (19, (.ite (true && ((!y1) == false)) (.d (.b y2)))), (18, (.ite (true && ((!y1) == false)) (vGValue p1))), (17, (.d (.b (!y1)))), (16, (.d (.b (!y1)))), (15, (.d (.b y1))), (14, (.d (.i .i64 p0))), (7, (.d (.i .i64 0))), (6, (.ptr 6 0)), (5, (.ptr 5 0)), (4, (.ptr 4 0)), (0, (.d (.i .i64 p0))), (1, (vGValue p1)), (2, (vGValue p2))], [(6, [(.d (.i .i64 0)), (.d (.i .i64 0)), (.d (.s (bs [])))]), (5, [(.d (.i .i64 p2.kind)), (.d (.i .i64 p2.num)), (.d (.s (bs p2.text)))]), (4, [(.d (.i .i64 p1.kind)), (.d (.i .i64 p1.num)), (.d (.s (bs p1.text)))])]⟩) (by kernel_rfl) ?_
              refine v_step (m := catS p1.text p2.text) (v' := fun y => (.d (.s (bs y)))) h rfl rfl (fun y hy => vop_cat (a := p1.text) (b := p2.text) hy (by kernel_rfl) (by kernel_rfl) (by kernel_rfl)) ?_
              clear h; intro y8 h
              refine call_step (m := sTextValue y8) (args := [(.d (.s (bs y8)))]) (v' := (fun y => (vGValue y))) h (OK_sTextValue y8) (by kernel_rfl) (by kernel_rfl) (fun _ => rfl) ?_
              clear h; intro y9 h
              refine sts_ok 2 (s' := ⟨[(7, (.d (.i .i64 0))), (66, (vGValue y9)), (65, (.d (.s (bs y8)))), (64, (.d (.s (bs p2.text)))), (63, (.ptr 5 2)), (62, (.d (.s (bs p1.text)))), (61, (.ptr 4 2)), (59, (.d (.b (decide (200 < (IntKind.wrap .i64 ((p1.text.length : Int) + (p2.text.length : Int)))))))), (58, (.d (.i .i64 (IntKind.wrap .i64 ((p1.text.length : Int) + (p2.text.length : Int)))))), (57, (.d (.i .i64 (p2.text.length : Int)))), (56, (.d (.s (bs p2.text)))), (55, (.ptr 5 2)), (54, (.d (.i .i64 (p1.text.length : Int)))), (53, (.d (.s (bs p1.text)))), (52, (.ptr 4 2)), (50, (.d (.b (decide (p0 = 9))))), (51, (.d (.b (decide (p0 = 9))))), (49, (.d (.i .i64 p0))), (47, (.d (.b (if y6 = true then true else y7)))), (46, (.ite (true && (y6 == false)) (.d (.b y7)))), (45, (.ite (true && (y6 == false)) (vGValue p2))), (44, (.d (.b y6))), (43, (.d (.b y6))), (42, (vGValue p1)), (40, (.d (.b (!y5)))), (39, (.d (.b y5))), (38, (vGValue p2)), (37, (vGValue p1)), (36, (.d (.i .i64 p0))), (29, (.d (.b (decide (p0 ≤ 2))))), (28, (.d (.i .i64 p0))), (26, (.d (.b (if (if (!y1) = true then true else (!y2)) = true then true else (!y3))))), (25, (.ite (true && ((if (!y1) = true then true else (!y2)) == false)) (.d (.b (!y3))))), (24, (.ite (true && ((if (!y1) = true then true else (!y2)) == false)) (.d (.b y3)))), (23, (.ite (true && ((if (!y1) = true then true else (!y2)) == false)) (vGValue p2))), (22, (.d (.b (if (!y1) = true then true else (!y2))))), (21, (.d (.b (if (!y1) = true then true else (!y2))))), (20, (.ite (true && ((!y1) == false)) (.d (.b (!y2))))), (19, (.ite (true && ((!y1) == false)) (.d (.b y2)))), (18, (.ite (true && ((!y1) == false)) (vGValue p1))), (17, (.d (.b (!y1)))), (16, (.d (.b (!y1)))), (15, (.d (.b y1))), (14, (.d (.i .i64 p0))), (7, (.d (.i .i64 0))), (6, (.ptr 6 0)), (5, (.ptr 5 0)), (4, (.ptr 4 0)), (0, (.d (.i .i64 p0))), (1, (vGValue p1)), (2, (vGValue p2))], [(6, [(.d (.i .i64 y9.kind)), (.d (.i .i64 y9.num)), (.d (.s (bs y9.text)))]), (5, [(.d (.i .i64 p2.kind)), (.d (.i .i64 p2.num)), (.d (.s (bs p2.text)))]), (4, [(.d (.i .i64 p1.kind)), (.d (.i .i64 p1.num)), (.d (.s (bs p1.text)))])]⟩) (by kernel_rfl) ?_
              refine nil_in ?_
              refine next_in ?_
              refine ret_in ?_
              refine blockK_ret ?_
              refine thenK_ret ?_
              have h := Option.some.inj h; subst h
              exact retn_step (vs := [(vGValue y9), (.d (.i .i64 0))]) (by kernel_rfl) (by kernel_rfl)
          · clear h; intro h
            refine seq_in ?_
            refine ops_in ?_
            refine sts_ok 2 (s' := ⟨[(67, (.d (.b (decide (p0 = 10))))), (68, (.d (.b (decide (p0 = 10))))), (50, (.d (.b (decide (p0 = 9))))), (51, (.d (.b (decide (p0 = 9))))), (49, (.d (.i .i64 p0))), (47, (.d (.b (if y6 = true then true else y7)))), (46, (.ite (true && (y6 == false)) (.d (.b y7)))), (45, (.ite (true && (y6 == false)) (vGValue p2))), (44, (.d (.b y6))), (43, (.d (.b y6))), (42, (vGValue p1)), (40, (.d (.b (!y5)))), (39, (.d (.b y5))), (38, (vGValue p2)), (37, (vGValue p1)), (36, (.d (.i .i64 p0))), (29, (.d (.b (decide (p0 ≤ 2))))), (28, (.d (.i .i64 p0))), (26, (.d (.b (if (if (!y1) = true then true else (!y2)) = true then true else (!y3))))), (25, (.ite (true && ((if (!y1) = true then true else (!y2)) == false)) (.d (.b (!y3))))), (24, (.ite (true && ((if (!y1) = true then true else (!y2)) == false)) (.d (.b y3)))), (23, (.ite (true && ((if (!y1) = true then true else (!y2)) == false)) (vGValue p2))), (22, (.d (.b (if (!y1) = true then true else (!y2))))), (21, (.d (.b (if (!y1) = true then true else (!y2))))), (20, (.ite (true && ((!y1) == false)) (.d (.b (!y2))))), (19, (.ite (true && ((!y1) == false)) (.d (.b y2)))), (18, (.ite (true && ((!y1) == false)) (vGValue p1))), (17, (.d (.b (!y1)))), (16, (.d (.b (!y1)))), (15, (.d (.b y1))), (14, (.d (.i .i64 p0))), (7, (.d (.i .i64 0))), (6, (.ptr 6 0)), (5, (.ptr 5 0)), (4, (.ptr 4 0)), (0, (.d (.i .i64 p0))), (1, (vGValue p1)), (2, (vGValue p2))], [(6, [(.d (.i .i64 0)), (.d (.i .i64 0)), (.d (.s (bs [])))]), (5, [(.d (.i .i64 p2.kind)), (.d (.i .i64 p2.num)), (.d (.s (bs p2.text)))]), (4, [(.d (.i .i64 p1.kind)), (.d (.i .i64 p1.num)), (.d (.s (bs p1.text)))])]⟩) (by kernel_rfl) ?_
            refine nil_in ?_
            refine next_in ?_
            refine cond_step h (by kernel_rfl) ?_ ?_
            · clear h; intro h
              refine seq_in ?_
              refine ops_in ?_
              refine sts_ok 4 (s' := ⟨[(73, (.d (.i .i64 p2.num))), (72, (.ptr 5 1)), (71, (.d (.i .i64 p1.num))), (70, (.ptr 4 1)), (67, (.d (.b (decide (p0 = 10))))), (68, (.d (.b (decide (p0 = 10))))), (50, (.d (.b (decide (p0 = 9))))), (51, (.d (.b (decide (p0 = 9))))), (49, (.d (.i .i64 p0))), (47, (.d (.b (if y6 = true then true else y7)))), (46, (.ite (true && (y6 == false)) (.d (.b y7)))), (45, (.ite (true && (y6 == false)) (vGValue p2))), (44, (.d (.b y6))), (43, (.d (.b y6))), (42, (vGValue p1)), (40, (.d (.b (!y5)))), (39, (.d (.b y5))), (38, (vGValue p2)), (37, (vGValue p1)), (36, (.d (.i .i64 p0))), (29, (.d (.b (decide (p0 ≤ 2))))), (28, (.d (.i .i64 p0))), (26, (.d (.b (if (if (!y1) = true then true else (!y2)) = true then true else (!y3))))), (25, (.ite (true && ((if (!y1) = true then true else (!y2)) == false)) (.d (.b (!y3))))), (24, (.ite (true && ((if (!y1) = true then true else (!y2)) == false)) (.d (.b y3)))), (23, (.ite (true && ((if (!y1) = true then true else (!y2)) == false)) (vGValue p2))), (22, (.d (.b (if (!y1) = true then true else (!y2))))), (21, (.d (.b (if (!y1) = true then true else (!y2))))), (20, (.ite (true && ((!y1) == false)) (.d (.b (!y2))))), (19, (.ite (true && ((!y1) == false)) (.d (.b y2)))), (18, (.ite (true && ((!y1) == false)) (vGValue p1))), (17, (.d (.b (!y1)))), (16, (.d (.b (!y1)))), (15, (.d (.b y1))), (14, (.d (.i .i64 p0))), (7, (.d (.i .i64 0))), (6, (.ptr 6 0)), (5, (.ptr 5 0)), (4, (.ptr 4 0)), (0, (.d (.i .i64 p0))), (1, (vGValue p1)), (2, (vGValue p2))], [(6, [(.d (.i .i64 0)), (.d (.i .i64 0)), (.d (.s (bs [])))]), (5, [(.d (.i .i64 p2.kind)), (.d (.i .i64 p2.num)), (.d (.s (bs p2.text)))]), (4, [(.d (.i .i64 p1.kind)), (.d (.i .i64 p1.num)), (.d (.s (bs p1.text)))])]⟩) (by kernel_rfl) ?_
              refine call_step (m := sAddNum p1.num p2.num) (args := [(.d (.i .i64 p1.num)), (.d (.i .i64 p2.num))]) (v' := (fun y => (.tup [(.d (.i .i64 y.1)), (.d (.b y.2))]))) h (OK_sAddNum p1.num p2.num) (by kernel_rfl) (by kernel_rfl) (fun _ => rfl) ?_
              clear h; intro y10 h
              refine sts_ok 5 (s' := ⟨[(9, (.d (.b y10.2))), (8, (.d (.i .i64 y10.1))), (76, (.d (.b y10.2))), (75, (.d (.i .i64 y10.1))), (69, (.tup [(.d (.i .i64 y10.1)), (.d (.b y10.2))])), (74, (.tup [(.d (.i .i64 y10.1)), (.d (.b y10.2))])), (73, (.d (.i .i64 p2.num))), (72, (.ptr 5 1)), (71, (.d (.i .i64 p1.num))), (70, (.ptr 4 1)), (67, (.d (.b (decide (p0 = 10))))), (68, (.d (.b (decide (p0 = 10))))), (50, (.d (.b (decide (p0 = 9))))), (51, (.d (.b (decide (p0 = 9))))), (49, (.d (.i .i64 p0))), (47, (.d (.b (if y6 = true then true else y7)))), (46, (.ite (true && (y6 == false)) (.d (.b y7)))), (45, (.ite (true && (y6 == false)) (vGValue p2))), (44, (.d (.b y6))), (43, (.d (.b y6))), (42, (vGValue p1)), (40, (.d (.b (!y5)))), (39, (.d (.b y5))), (38, (vGValue p2)), (37, (vGValue p1)), (36, (.d (.i .i64 p0))), (29, (.d (.b (decide (p0 ≤ 2))))), (28, (.d (.i .i64 p0))), (26, (.d (.b (if (if (!y1) = true then true else (!y2)) = true then true else (!y3))))), (25, (.ite (true && ((if (!y1) = true then true else (!y2)) == false)) (.d (.b (!y3))))), (24, (.ite (true && ((if (!y1) = true then true else (!y2)) == false)) (.d (.b y3)))), (23, (.ite (true && ((if (!y1) = true then true else (!y2)) == false)) (vGValue p2))), (22, (.d (.b (if (!y1) = true then true else (!y2))))), (21, (.d (.b (if (!y1) = true then true else (!y2))))), (20, (.ite (true && ((!y1) == false)) (.d (.b (!y2))))), (19, (.ite (true && ((!y1) == false)) (.d (.b y2)))), (18, (.ite (true && ((!y1) == false)) (vGValue p1))), (17, (.d (.b (!y1)))), (16, (.d (.b (!y1)))), (15, (.d (.b y1))), (14, (.d (.i .i64 p0))), (7, (.d (.i .i64 0))), (6, (.ptr 6 0)), (5, (.ptr 5 0)), (4, (.ptr 4 0)), (0, (.d (.i .i64 p0))), (1, (vGValue p1)), (2, (vGValue p2))], [(6, [(.d (.i .i64 0)), (.d (.i .i64 0)), (.d (.s (bs [])))]), (5, [(.d (.i .i64 p2.kind)), (.d (.i .i64 p2.num)), (.d (.s (bs p2.text)))]), (4, [(.d (.i .i64 p1.kind)), (.d (.i .i64 p1.num)), (.d (.s (bs p1.text)))])]⟩) (by kernel_rfl) ?_
              refine nil_in ?_
              refine next_in ?_
              refine seq_in ?_
              refine ops_in ?_
              refine sts_ok 2 (s' := ⟨[(78, (.d (.b y10.2))), (77, (.d (.i .i64 y10.1))), (9, (.d (.b y10.2))), (8, (.d (.i .i64 y10.1))), (76, (.d (.b y10.2))), (75, (.d (.i .i64 y10.1))), (69, (.tup [(.d (.i .i64 y10.1)), (.d (.b y10.2))])), (74, (.tup [(.d (.i .i64 y10.1)), (.d (.b y10.2))])), (73, (.d (.i .i64 p2.num))), (72, (.ptr 5 1)), (71, (.d (.i .i64 p1.num))), (70, (.ptr 4 1)), (67, (.d (.b (decide (p0 = 10))))), (68, (.d (.b (decide (p0 = 10))))), (50, (.d (.b (decide (p0 = 9))))), (51, (.d (.b (decide (p0 = 9))))), (49, (.d (.i .i64 p0))), (47, (.d (.b (if y6 = true then true else y7)))), (46, (.ite (true && (y6 == false)) (.d (.b y7)))), (45, (.ite (true && (y6 == false)) (vGValue p2))), (44, (.d (.b y6))), (43, (.d (.b y6))), (42, (vGValue p1)), (40, (.d (.b (!y5)))), (39, (.d (.b y5))), (38, (vGValue p2)), (37, (vGValue p1)), (36, (.d (.i .i64 p0))), (29, (.d (.b (decide (p0 ≤ 2))))), (28, (.d (.i .i64 p0))), (26, (.d (.b (if (if (!y1) = true then true else (!y2)) = true then true else (!y3))))), (25, (.ite (true && ((if (!y1) = true then true else (!y2)) == false)) (.d (.b (!y3))))), (24, (.ite (true && ((if (!y1) = true then true else (!y2)) == false)) (.d (.b y3)))), (23, (.ite (true && ((if (!y1) = true then true else (!y2)) == false)) (vGValue p2))), (22, (.d (.b (if (!y1) = true then true else (!y2))))), (21, (.d (.b (if (!y1) = true then true else (!y2))))), (20, (.ite (true && ((!y1) == false)) (.d (.b (!y2))))), (19, (.ite (true && ((!y1) == false)) (.d (.b y2)))), (18, (.ite (true && ((!y1) == false)) (vGValue p1))), (17, (.d (.b (!y1)))), (16, (.d (.b (!y1)))), (15, (.d (.b y1))), (14, (.d (.i .i64 p0))), (7, (.d (.i .i64 0))), (6, (.ptr 6 0)), (5, (.ptr 5 0)), (4, (.ptr 4 0)), (0, (.d (.i .i64 p0))), (1, (vGValue p1)), (2, (vGValue p2))], [(6, [(.d (.i .i64 0)), (.d (.i .i64 0)), (.d (.s (bs [])))]), (5, [(.d (.i .i64 p2.kind)), (.d (.i .i64 p2.num)), (.d (.s (bs p2.text)))]), (4, [(.d (.i .i64 p1.kind)), (.d (.i .i64 p1.num)), (.d (.s (bs p1.text)))])]⟩) (by kernel_rfl) ?_
              refine call_step (m := sL6Num y10.1 y10.2) (args := [(.d (.i .i64 y10.1)), (.d (.b y10.2))]) (v' := (fun y => (.tup [(vGValue y.1), (.d (.i .i64 y.2))]))) h (OK_sL6Num y10.1 y10.2) (by kernel_rfl) (by kernel_rfl) (fun _ => rfl) ?_
              clear h; intro y11 h
              refine sts_ok 4 (s' := ⟨[(7, (.d (.i .i64 y11.2))), (81, (.d (.i .i64 y11.2))), (80, (vGValue y11.1)), (79, (.tup [(vGValue y11.1), (.d (.i .i64 y11.2))])), (78, (.d (.b y10.2))), (77, (.d (.i .i64 y10.1))), (9, (.d (.b y10.2))), (8, (.d (.i .i64 y10.1))), (76, (.d (.b y10.2))), (75, (.d (.i .i64 y10.1))), (69, (.tup [(.d (.i .i64 y10.1)), (.d (.b y10.2))])), (74, (.tup [(.d (.i .i64 y10.1)), (.d (.b y10.2))])), (73, (.d (.i .i64 p2.num))), (72, (.ptr 5 1)), (71, (.d (.i .i64 p1.num))), (70, (.ptr 4 1)), (67, (.d (.b (decide (p0 = 10))))), (68, (.d (.b (decide (p0 = 10))))), (50, (.d (.b (decide (p0 = 9))))), (51, (.d (.b (decide (p0 = 9))))), (49, (.d (.i .i64 p0))), (47, (.d (.b (if y6 = true then true else y7)))), (46, (.ite (true && (y6 == false)) (.d (.b y7)))), (45, (.ite (true && (y6 == false)) (vGValue p2))), (44, (.d (.b y6))), (43, (.d (.b y6))), (42, (vGValue p1)), (40, (.d (.b (!y5)))), (39, (.d (.b y5))), (38, (vGValue p2)), (37, (vGValue p1)), (36, (.d (.i .i64 p0))), (29, (.d (.b (decide (p0 ≤ 2))))), (28, (.d (.i .i64 p0))), (26, (.d (.b (if (if (!y1) = true then true else (!y2)) = true then true else (!y3))))), (25, (.ite (true && ((if (!y1) = true then true else (!y2)) == false)) (.d (.b (!y3))))), (24, (.ite (true && ((if (!y1) = true then true else (!y2)) == false)) (.d (.b y3)))), (23, (.ite (true && ((if (!y1) = true then true else (!y2)) == false)) (vGValue p2))), (22, (.d (.b (if (!y1) = true then true else (!y2))))), (21, (.d (.b (if (!y1) = true then true else (!y2))))), (20, (.ite (true && ((!y1) == false)) (.d (.b (!y2))))), (19, (.ite (true && ((!y1) == false)) (.d (.b y2)))), (18, (.ite (true && ((!y1) == false)) (vGValue p1))), (17, (.d (.b (!y1)))), (16, (.d (.b (!y1)))), (15, (.d (.b y1))), (14, (.d (.i .i64 p0))), (7, (.d (.i .i64 0))), (6, (.ptr 6 0)), (5, (.ptr 5 0)), (4, (.ptr 4 0)), (0, (.d (.i .i64 p0))), (1, (vGValue p1)), (2, (vGValue p2))], [(6, [(.d (.i .i64 y11.1.kind)), (.d (.i .i64 y11.1.num)), (.d (.s (bs y11.1.text)))]), (5, [(.d (.i .i64 p2.kind)), (.d (.i .i64 p2.num)), (.d (.s (bs p2.text)))]), (4, [(.d (.i .i64 p1.kind)), (.d (.i .i64 p1.num)), (.d (.s (bs p1.text)))])]⟩) (by kernel_rfl) ?_
              refine nil_in ?_
              refine next_in ?_
              refine ret_in ?_
              refine blockK_ret ?_
              refine thenK_ret ?_
              have h := Option.some.inj h; subst h
              exact retn_step (vs := [(vGValue y11.1), (.d (.i .i64 y11.2))]) (by kernel_rfl) (by kernel_rfl)
            · clear h; intro h
              refine seq_in ?_
              refine ops_in ?_
              refine sts_ok 2 (s' := ⟨[(82, (.d (.b (decide (p0 = 11))))), (83, (.d (.b (decide (p0 = 11))))), (67, (.d (.b (decide (p0 = 10))))), (68, (.d (.b (decide (p0 = 10))))), (50, (.d (.b (decide (p0 = 9))))), (51, (.d (.b (decide (p0 = 9))))), (49, (.d (.i .i64 p0))), (47, (.d (.b (if y6 = true then true else y7)))), (46, (.ite (true && (y6 == false)) (.d (.b y7)))), (45, (.ite (true && (y6 == false)) (vGValue p2))), (44, (.d (.b y6))), (43, (.d (.b y6))), (42, (vGValue p1)), (40, (.d (.b (!y5)))), (39, (.d (.b y5))), (38, (vGValue p2)), (37, (vGValue p1)), (36, (.d (.i .i64 p0))), (29, (.d (.b (decide (p0 ≤ 2))))), (28, (.d (.i .i64 p0))), (26, (.d (.b (if (if (!y1) = true then true else (!y2)) = true then true else (!y3))))), (25, (.ite (true && ((if (!y1) = true then true else (!y2)) == false)) (.d (.b (!y3))))), (24, (.ite (true && ((if (!y1) = true then true else (!y2)) == false)) (.d (.b y3)))), (23, (.ite (true && ((if (!y1) = true then true else (!y2)) == false)) (vGValue p2))), (22, (.d (.b (if (!y1) = true then true else (!y2))))), (21, (.d (.b (if (!y1) = true then true else (!y2))))), (20, (.ite (true && ((!y1) == false)) (.d (.b (!y2))))), (19, (.ite (true && ((!y1) == false)) (.d (.b y2)))), (18, (.ite (true && ((!y1) == false)) (vGValue p1))), (17, (.d (.b (!y1)))), (16, (.d (.b (!y1)))), (15, (.d (.b y1))), (14, (.d (.i .i64 p0))), (7, (.d (.i .i64 0))), (6, (.ptr 6 0)), (5, (.ptr 5 0)), (4, (.ptr 4 0)), (0, (.d (.i .i64 p0))), (1, (vGValue p1)), (2, (vGValue p2))], [(6, [(.d (.i .i64 0)), (.d (.i .i64 0)), (.d (.s (bs [])))]), (5, [(.d (.i .i64 p2.kind)), (.d (.i .i64 p2.num)), (.d (.s (bs p2.text)))]), (4, [(.d (.i .i64 p1.kind)), (.d (.i .i64 p1.num)), (.d (.s (bs p1.text)))])]⟩) (by kernel_rfl) ?_
              refine nil_in ?_
              refine next_in ?_
              refine cond_step h (by kernel_rfl) ?_ ?_
              · clear h; intro h
                refine seq_in ?_
                refine ops_in ?_
                refine sts_ok 4 (s' := ⟨[(88, (.d (.i .i64 p2.num))), (87, (.ptr 5 1)), (86, (.d (.i .i64 p1.num))), (85, (.ptr 4 1)), (82, (.d (.b (decide (p0 = 11))))), (83, (.d (.b (decide (p0 = 11))))), (67, (.d (.b (decide (p0 = 10))))), (68, (.d (.b (decide (p0 = 10))))), (50, (.d (.b (decide (p0 = 9))))), (51, (.d (.b (decide (p0 = 9))))), (49, (.d (.i .i64 p0))), (47, (.d (.b (if y6 = true then true else y7)))), (46, (.ite (true && (y6 == false)) (.d (.b y7)))), (45, (.ite (true && (y6 == false)) (vGValue p2))), (44, (.d (.b y6))), (43, (.d (.b y6))), (42, (vGValue p1)), (40, (.d (.b (!y5)))), (39, (.d (.b y5))), (38, (vGValue p2)), (37, (vGValue p1)), (36, (.d (.i .i64 p0))), (29, (.d (.b (decide (p0 ≤ 2))))), (28, (.d (.i .i64 p0))), (26, (.d (.b (if (if (!y1) = true then true else (!y2)) = true then true else (!y3))))), (25, (.ite (true && ((if (!y1) = true then true else (!y2)) == false)) (.d (.b (!y3))))), (24, (.ite (true && ((if (!y1) = true then true else (!y2)) == false)) (.d (.b y3)))), (23, (.ite (true && ((if (!y1) = true then true else (!y2)) == false)) (vGValue p2))), (22, (.d (.b (if (!y1) = true then true else (!y2))))), (21, (.d (.b (if (!y1) = true then true else (!y2))))), (20, (.ite (true && ((!y1) == false)) (.d (.b (!y2))))), (19, (.ite (true && ((!y1) == false)) (.d (.b y2)))), (18, (.ite (true && ((!y1) == false)) (vGValue p1))), (17, (.d (.b (!y1)))), (16, (.d (.b (!y1)))), (15, (.d (.b y1))), (14, (.d (.i .i64 p0))), (7, (.d (.i .i64 0))), (6, (.ptr 6 0)), (5, (.ptr 5 0)), (4, (.ptr 4 0)), (0, (.d (.i .i64 p0))), (1, (vGValue p1)), (2, (vGValue p2))], [(6, [(.d (.i .i64 0)), (.d (.i .i64 0)), (.d (.s (bs [])))]), (5, [(.d (.i .i64 p2.kind)), (.d (.i .i64 p2.num)), (.d (.s (bs p2.text)))]), (4, [(.d (.i .i64 p1.kind)), (.d (.i .i64 p1.num)), (.d (.s (bs p1.text)))])]⟩) (by kernel_rfl) ?_
                refine call_step (m := sSubNum p1.num p2.num) (args := [(.d (.i .i64 p1.num)), (.d (.i .i64 p2.num))]) (v' := (fun y => (.tup [(.d (.i .i64 y.1)), (.d (.b y.2))]))) h (OK_sSubNum p1.num p2.num) (by kernel_rfl) (by kernel_rfl) (fun _ => rfl) ?_
                clear h; intro y12 h
                refine sts_ok 5 (s' := ⟨[(11, (.d (.b y12.2))), (10, (.d (.i .i64 y12.1))), (91, (.d (.b y12.2))), (90, (.d (.i .i64 y12.1))), (84, (.tup [(.d (.i .i64 y12.1)), (.d (.b y12.2))])), (89, (.tup [(.d (.i .i64 y12.1)), (.d (.b y12.2))])), (88, (.d (.i .i64 p2.num))), (87, (.ptr 5 1)), (86, (.d (.i .i64 p1.num))), (85, (.ptr 4 1)), (82, (.d (.b (decide (p0 = 11))))), (83, (.d (.b (decide (p0 = 11))))), (67, (.d (.b (decide (p0 = 10))))), (68, (.d (.b (decide (p0 = 10))))), (50, (.d (.b (decide (p0 = 9))))), (51, (.d (.b (decide (p0 = 9))))), (49, (.d (.i .i64 p0))), (47, (.d (.b (if y6 = true then true else y7)))), (46, (.ite (true && (y6 == false)) (.d (.b y7)))), (45, (.ite (true && (y6 == false)) (vGValue p2))), (44, (.d (.b y6))), (43, (.d (.b y6))), (42, (vGValue p1)), (40, (.d (.b (!y5)))), (39, (.d (.b y5))), (38, (vGValue p2)), (37, (vGValue p1)), (36, (.d (.i .i64 p0))), (29, (.d (.b (decide (p0 ≤ 2))))), (28, (.d (.i .i64 p0))), (26, (.d (.b (if (if (!y1) = true then true else (!y2)) = true then true else (!y3))))), (25, (.ite (true && ((if (!y1) = true then true else (!y2)) == false)) (.d (.b (!y3))))), (24, (.ite (true && ((if (!y1) = true then true else (!y2)) == false)) (.d (.b y3)))), (23, (.ite (true && ((if (!y1) = true then true else (!y2)) == false)) (vGValue p2))), (22, (.d (.b (if (!y1) = true then true else (!y2))))), (21, (.d (.b (if (!y1) = true then true else (!y2))))), (20, (.ite (true && ((!y1) == false)) (.d (.b (!y2))))), (19, (.ite (true && ((!y1) == false)) (.d (.b y2)))), (18, (.ite (true && ((!y1) == false)) (vGValue p1))), (17, (.d (.b (!y1)))), (16, (.d (.b (!y1)))), (15, (.d (.b y1))), (14, (.d (.i .i64 p0))), (7, (.d (.i .i64 0))), (6, (.ptr 6 0)), (5, (.ptr 5 0)), (4, (.ptr 4 0)), (0, (.d (.i .i64 p0))), (1, (vGValue p1)), (2, (vGValue p2))], [(6, [(.d (.i .i64 0)), (.d (.i .i64 0)), (.d (.s (bs [])))]), (5, [(.d (.i .i64 p2.kind)), (.d (.i .i64 p2.num)), (.d (.s (bs p2.text)))]), (4, [(.d (.i .i64 p1.kind)), (.d (.i .i64 p1.num)), (.d (.s (bs p1.text)))])]⟩) (by kernel_rfl) ?_
                refine nil_in ?_
                refine next_in ?_
                refine seq_in ?_
                refine ops_in ?_
                refine sts_ok 2 (s' := ⟨[(93, (.d (.b y12.2))), (92, (.d (.i .i64 y12.1))), (11, (.d (.b y12.2))), (10, (.d (.i .i64 y12.1))), (91, (.d (.b y12.2))), (90, (.d (.i .i64 y12.1))), (84, (.tup [(.d (.i .i64 y12.1)), (.d (.b y12.2))])), (89, (.tup [(.d (.i .i64 y12.1)), (.d (.b y12.2))])), (88, (.d (.i .i64 p2.num))), (87, (.ptr 5 1)), (86, (.d (.i .i64 p1.num))), (85, (.ptr 4 1)), (82, (.d (.b (decide (p0 = 11))))), (83, (.d (.b (decide (p0 = 11))))), (67, (.d (.b (decide (p0 = 10))))), (68, (.d (.b (decide (p0 = 10))))), (50, (.d (.b (decide (p0 = 9))))), (51, (.d (.b (decide (p0 = 9))))), (49, (.d (.i .i64 p0))), (47, (.d (.b (if y6 = true then true else y7)))), (46, (.ite (true && (y6 == false)) (.d (.b y7)))), (45, (.ite (true && (y6 == false)) (vGValue p2))), (44, (.d (.b y6))), (43, (.d (.b y6))), (42, (vGValue p1)), (40, (.d (.b (!y5)))), (39, (.d (.b y5))), (38, (vGValue p2)), (37, (vGValue p1)), (36, (.d (.i .i64 p0))), (29, (.d (.b (decide (p0 ≤ 2))))), (28, (.d (.i .i64 p0))), (26, (.d (.b (if (if (!y1) = true then true else (!y2)) = true then true else (!y3))))), (25, (.ite (true && ((if (!y1) = true then true else (!y2)) == false)) (.d (.b (!y3))))), (24, (.ite (true && ((if (!y1) = true then true else (!y2)) == false)) (.d (.b y3)))), (23, (.ite (true && ((if (!y1) = true then true else (!y2)) == false)) (vGValue p2))), (22, (.d (.b (if (!y1) = true then true else (!y2))))), (21, (.d (.b (if (!y1) = true then true else (!y2))))), (20, (.ite (true && ((!y1) == false)) (.d (.b (!y2))))), (19, (.ite (true && ((!y1) == false)) (.d (.b y2)))), (18, (.ite (true && ((!y1) == false)) (vGValue p1))), (17, (.d (.b (!y1)))), (16, (.d (.b (!y1)))), (15, (.d (.b y1))), (14, (.d (.i .i64 p0))), (7, (.d (.i .i64 0))), (6, (.ptr 6 0)), (5, (.ptr 5 0)), (4, (.ptr 4 0)), (0, (.d (.i .i64 p0))), (1, (vGValue p1)), (2, (vGValue p2))], [(6, [(.d (.i .i64 0)), (.d (.i .i64 0)), (.d (.s (bs [])))]), (5, [(.d (.i .i64 p2.kind)), (.d (.i .i64 p2.num)), (.d (.s (bs p2.text)))]), (4, [(.d (.i .i64 p1.kind)), (.d (.i .i64 p1.num)), (.d (.s (bs p1.text)))])]⟩) (by kernel_rfl) ?_
                refine call_step (m := sL6Num y12.1 y12.2) (args := [(.d (.i .i64 y12.1)), (.d (.b y12.2))]) (v' := (fun y => (.tup [(vGValue y.1), (.d (.i .i64 y.2))]))) h (OK_sL6Num y12.1 y12.2) (by kernel_rfl) (by kernel_rfl) (fun _ => rfl) ?_
                clear h; intro y13 h
                refine sts_ok 4 (s' := ⟨[(7, (.d (.i .i64 y13.2))), (96, (.d (.i .i64 y13.2))), (95, (vGValue y13.1)), (94, (.tup [(vGValue y13.1), (.d (.i .i64 y13.2))])), (93, (.d (.b y12.2))), (92, (.d (.i .i64 y12.1))), (11, (.d (.b y12.2))), (10, (.d (.i .i64 y12.1))), (91, (.d (.b y12.2))), (90, (.d (.i .i64 y12.1))), (84, (.tup [(.d (.i .i64 y12.1)), (.d (.b y12.2))])), (89, (.tup [(.d (.i .i64 y12.1)), (.d (.b y12.2))])), (88, (.d (.i .i64 p2.num))), (87, (.ptr 5 1)), (86, (.d (.i .i64 p1.num))), (85, (.ptr 4 1)), (82, (.d (.b (decide (p0 = 11))))), (83, (.d (.b (decide (p0 = 11))))), (67, (.d (.b (decide (p0 = 10))))), (68, (.d (.b (decide (p0 = 10))))), (50, (.d (.b (decide (p0 = 9))))), (51, (.d (.b (decide (p0 = 9))))), (49, (.d (.i .i64 p0))), (47, (.d (.b (if y6 = true then true else y7)))), (46, (.ite (true && (y6 == false)) (.d (.b y7)))), (45, (.ite (true && (y6 == false)) (vGValue p2))), (44, (.d (.b y6))), (43, (.d (.b y6))), (42, (vGValue p1)), (40, (.d (.b (!y5)))), (39, (.d (.b y5))), (38, (vGValue p2)), (37, (vGValue p1)), (36, (.d (.i .i64 p0))), (29, (.d (.b (decide (p0 ≤ 2))))), (28, (.d (.i .i64 p0))), (26, (.d (.b (if (if (!y1) = true then true else (!y2)) = true then true else (!y3))))), (25, (.ite (true && ((if (!y1) = true then true else (!y2)) == false)) (.d (.b (!y3))))), (24, (.ite (true && ((if (!y1) = true then true else (!y2)) == false)) (.d (.b y3)))), (23, (.ite (true && ((if (!y1) = true then true else (!y2)) == false)) (vGValue p2))), (22, (.d (.b (if (!y1) = true then true else (!y2))))), (21, (.d (.b (if (!y1) = true then true else (!y2))))), (20, (.ite (true && ((!y1) == false)) (.d (.b (!y2))))), (19, (.ite (true && ((!y1) == false)) (.d (.b y2)))), (18, (.ite (true && ((!y1) == false)) (vGValue p1))), (17, (.d (.b (!y1)))), (16, (.d (.b (!y1)))), (15, (.d (.b y1))), (14, (.d (.i .i64 p0))), (7, (.d (.i .i64 0))), (6, (.ptr 6 0)), (5, (.ptr 5 0)), (4, (.ptr 4 0)), (0, (.d (.i .i64 p0))), (1, (vGValue p1)), (2, (vGValue p2))], [(6, [(.d (.i .i64 y13.1.kind)), (.d (.i .i64 y13.1.num)), (.d (.s (bs y13.1.text)))]), (5, [(.d (.i .i64 p2.kind)), (.d (.i .i64 p2.num)), (.d (.s (bs p2.text)))]), (4, [(.d (.i .i64 p1.kind)), (.d (.i .i64 p1.num)), (.d (.s (bs p1.text)))])]⟩) (by kernel_rfl) ?_
                refine nil_in ?_
                refine next_in ?_
                refine ret_in ?_
                refine blockK_ret ?_
                refine thenK_ret ?_
                have h := Option.some.inj h; subst h
                exact retn_step (vs := [(vGValue y13.1), (.d (.i .i64 y13.2))]) (by kernel_rfl) (by kernel_rfl)
              · clear h; intro h
                refine seq_in ?_
                refine ops_in ?_
                refine sts_ok 2 (s' := ⟨[(97, (.d (.b (decide (p0 = 12))))), (98, (.d (.b (decide (p0 = 12))))), (82, (.d (.b (decide (p0 = 11))))), (83, (.d (.b (decide (p0 = 11))))), (67, (.d (.b (decide (p0 = 10))))), (68, (.d (.b (decide (p0 = 10))))), (50, (.d (.b (decide (p0 = 9))))), (51, (.d (.b (decide (p0 = 9))))), (49, (.d (.i .i64 p0))), (47, (.d (.b (if y6 = true then true else y7)))), (46, (.ite (true && (y6 == false)) (.d (.b y7)))), (45, (.ite (true && (y6 == false)) (vGValue p2))), (44, (.d (.b y6))), (43, (.d (.b y6))), (42, (vGValue p1)), (40, (.d (.b (!y5)))), (39, (.d (.b y5))), (38, (vGValue p2)), (37, (vGValue p1)), (36, (.d (.i .i64 p0))), (29, (.d (.b (decide (p0 ≤ 2))))), (28, (.d (.i .i64 p0))), (26, (.d (.b (if (if (!y1) = true then true else (!y2)) = true then true else (!y3))))), (25, (.ite (true && ((if (!y1) = true then true else (!y2)) == false)) (.d (.b (!y3))))), (24, (.ite (true && ((if (!y1) = true then true else (!y2)) == false)) (.d (.b y3)))), (23, (.ite (true && ((if (!y1) = true then true else (!y2)) == false)) (vGValue p2))), (22, (.d (.b (if (!y1) = true then true else (!y2))))), (21, (.d (.b (if (!y1) = true then true else (!y2))))), (20, (.ite (true && ((!y1) == false)) (.d (.b (!y2))))), (19, (.ite (true && ((!y1) == false)) (.d (.b y2)))), (18, (.ite (true && ((!y1) == false)) (vGValue p1))), (17, (.d (.b (!y1)))), (16, (.d (.b (!y1)))), (15, (.d (.b y1))), (14, (.d (.i .i64 p0))), (7, (.d (.i .i64 0))), (6, (.ptr 6 0)), (5, (.ptr 5 0)), (4, (.ptr 4 0)), (0, (.d (.i .i64 p0))), (1, (vGValue p1)), (2, (vGValue p2))], [(6, [(.d (.i .i64 0)), (.d (.i .i64 0)), (.d (.s (bs [])))]), (5, [(.d (.i .i64 p2.kind)), (.d (.i .i64 p2.num)), (.d (.s (bs p2.text)))]), (4, [(.d (.i .i64 p1.kind)), (.d (.i .i64 p1.num)), (.d (.s (bs p1.text)))])]⟩) (by kernel_rfl) ?_
                refine nil_in ?_
                refine next_in ?_
                refine cond_step h (by kernel_rfl) ?_ ?_
                · clear h; intro h
                  refine seq_in ?_
                  refine ops_in ?_
                  refine sts_ok 4 (s' := ⟨[(103, (.d (.i .i64 p2.num))), (102, (.ptr 5 1)), (101, (.d (.i .i64 p1.num))), (100, (.ptr 4 1)), (97, (.d (.b (decide (p0 = 12))))), (98, (.d (.b (decide (p0 = 12))))), (82, (.d (.b (decide (p0 = 11))))), (83, (.d (.b (decide (p0 = 11))))), (67, (.d (.b (decide (p0 = 10))))), (68, (.d (.b (decide (p0 = 10))))), (50, (.d (.b (decide (p0 = 9))))), (51, (.d (.b (decide (p0 = 9))))), (49, (.d (.i .i64 p0))), (47, (.d (.b (if y6 = true then true else y7)))), (46, (.ite (true && (y6 == false)) (.d (.b y7)))), (45, (.ite (true && (y6 == false)) (vGValue p2))), (44, (.d (.b y6))), (43, (.d (.b y6))), (42, (vGValue p1)), (40, (.d (.b (!y5)))), (39, (.d (.b y5))), (38, (vGValue p2)), (37, (vGValue p1)), (36, (.d (.i .i64 p0))), (29, (.d (.b (decide (p0 ≤ 2))))), (28, (.d (.i .i64 p0))), (26, (.d (.b (if (if (!y1) = true then true else (!y2)) = true then true else (!y3))))), (25, (.ite (true && ((if (!y1) = true then true else (!y2)) == false)) (.d (.b (!y3))))), (24, (.ite (true && ((if (!y1) = true then true else (!y2)) == false)) (.d (.b y3)))), (23, (.ite (true && ((if (!y1) = true then true else (!y2)) == false)) (vGValue p2))), (22, (.d (.b (if (!y1) = true then true else (!y2))))), (21, (.d (.b (if (!y1) = true then true else (!y2))))), (20, (.ite (true && ((!y1) == false)) (.d (.b (!y2))))), (19, (.ite (true && ((!y1) == false)) (.d (.b y2)))), (18, (.ite (true && ((!y1) == false)) (vGValue p1))), (17, (.d (.b (!y1)))), (16, (.d (.b (!y1)))), (15, (.d (.b y1))), (14, (.d (.i .i64 p0))), (7, (.d (.i .i64 0))), (6, (.ptr 6 0)), (5, (.ptr 5 0)), (4, (.ptr 4 0)), (0, (.d (.i .i64 p0))), (1, (vGValue p1)), (2, (vGValue p2))], [(6, [(.d (.i .i64 0)), (.d (.i .i64 0)), (.d (.s (bs [])))]), (5, [(.d (.i .i64 p2.kind)), (.d (.i .i64 p2.num)), (.d (.s (bs p2.text)))]), (4, [(.d (.i .i64 p1.kind)), (.d (.i .i64 p1.num)), (.d (.s (bs p1.text)))])]⟩) (by kernel_rfl) ?_
                  refine call_step (m := sMulNum p1.num p2.num) (args := [(.d (.i .i64 p1.num)), (.d (.i .i64 p2.num))]) (v' := (fun y => (.tup [(.d (.i .i64 y.1)), (.d (.b y.2))]))) h (OK_sMulNum p1.num p2.num) (by kernel_rfl) (by kernel_rfl) (fun _ => rfl) ?_
                  clear h; intro y14 h
                  refine sts_ok 5 (s' := ⟨[(13, (.d (.b y14.2))), (12, (.d (.i .i64 y14.1))), (106, (.d (.b y14.2))), (105, (.d (.i .i64 y14.1))), (99, (.tup [(.d (.i .i64 y14.1)), (.d (.b y14.2))])), (104, (.tup [(.d (.i .i64 y14.1)), (.d (.b y14.2))])), (103, (.d (.i .i64 p2.num))), (102, (.ptr 5 1)), (101, (.d (.i .i64 p1.num))), (100, (.ptr 4 1)), (97, (.d (.b (decide (p0 = 12))))), (98, (.d (.b (decide (p0 = 12))))), (82, (.d (.b (decide (p0 = 11))))), (83, (.d (.b (decide (p0 = 11))))), (67, (.d (.b (decide (p0 = 10))))), (68, (.d (.b (decide (p0 = 10))))), (50, (.d (.b (decide (p0 = 9))))), (51, (.d (.b (decide (p0 = 9))))), (49, (.d (.i .i64 p0))), (47, (.d (.b (if y6 = true then true else y7)))), (46, (.ite (true && (y6 == false)) (.d (.b y7)))), (45, (.ite (true && (y6 == false)) (vGValue p2))), (44, (.d (.b y6))), (43, (.d (.b y6))), (42, (vGValue p1)), (40, (.d (.b (!y5)))), (39, (.d (.b y5))), (38, (vGValue p2)), (37, (vGValue p1)), (36, (.d (.i .i64 p0))), (29, (.d (.b (decide (p0 ≤ 2))))), (28, (.d (.i .i64 p0))), (26, (.d (.b (if (if (!y1) = true then true else (!y2)) = true then true else (!y3))))), (25, (.ite (true && ((if (!y1) = true then true else (!y2)) == false)) (.d (.b (!y3))))), (24, (.ite (true && ((if (!y1) = true then true else (!y2)) == false)) (.d (.b y3)))), (23, (.ite (true && ((if (!y1) = true then true else (!y2)) == false)) (vGValue p2))), (22, (.d (.b (if (!y1) = true then true else (!y2))))), (21, (.d (.b (if (!y1) = true then true else (!y2))))), (20, (.ite (true && ((!y1) == false)) (.d (.b (!y2))))), (19, (.ite (true && ((!y1) == false)) (.d (.b y2)))), (18, (.ite (true && ((!y1) == false)) (vGValue p1))), (17, (.d (.b (!y1)))), (16, (.d (.b (!y1)))), (15, (.d (.b y1))), (14, (.d (.i .i64 p0))), (7, (.d (.i .i64 0))), (6, (.ptr 6 0)), (5, (.ptr 5 0)), (4, (.ptr 4 0)), (0, (.d (.i .i64 p0))), (1, (vGValue p1)), (2, (vGValue p2))], [(6, [(.d (.i .i64 0)), (.d (.i .i64 0)), (.d (.s (bs [])))]), (5, [(.d (.i .i64 p2.kind)), (.d (.i .i64 p2.num)), (.d (.s (bs p2.text)))]), (4, [(.d (.i .i64 p1.kind)), (.d (.i .i64 p1.num)), (.d (.s (bs p1.text)))])]⟩) (by kernel_rfl) ?_
                  refine nil_in ?_
                  refine next_in ?_
                  refine seq_in ?_
                  refine ops_in ?_
                  refine sts_ok 2 (s' := ⟨[(108, (.d (.b y14.2))), (107, (.d (.i .i64 y14.1))), (13, (.d (.b y14.2))), (12, (.d (.i .i64 y14.1))), (106, (.d (.b y14.2))), (105, (.d (.i .i64 y14.1))), (99, (.tup [(.d (.i .i64 y14.1)), (.d (.b y14.2))])), (104, (.tup [(.d (.i .i64 y14.1)), (.d (.b y14.2))])), (103, (.d (.i .i64 p2.num))), (102, (.ptr 5 1)), (101, (.d (.i .i64 p1.num))), (100, (.ptr 4 1)), (97, (.d (.b (decide (p0 = 12))))), (98, (.d (.b (decide (p0 = 12))))), (82, (.d (.b (decide (p0 = 11))))), (83, (.d (.b (decide (p0 = 11))))), (67, (.d (.b (decide (p0 = 10))))), (68, (.d (.b (decide (p0 = 10))))), (50, (.d (.b (decide (p0 = 9))))), (51, (.d (.b (decide (p0 = 9))))), (49, (.d (.i .i64 p0))), (47, (.d (.b (if y6 = true then true else y7)))), (46, (.ite (true && (y6 == false)) (.d (.b y7)))), (45, (.ite (true && (y6 == false)) (vGValue p2))), (44, (.d (.b y6))), (43, (.d (.b y6))), (42, (vGValue p1)), (40, (.d (.b (!y5)))), (39, (.d (.b y5))), (38, (vGValue p2)), (37, (vGValue p1)), (36, (.d (.i .i64 p0))), (29, (.d (.b (decide (p0 ≤ 2))))), (28, (.d (.i .i64 p0))), (26, (.d (.b (if (if (!y1) = true then true else (!y2)) = true then true else (!y3))))), (25, (.ite (true && ((if (!y1) = true then true else (!y2)) == false)) (.d (.b (!y3))))), (24, (.ite (true && ((if (!y1) = true then true else (!y2)) == false)) (.d (.b y3)))), (23, (.ite (true && ((if (!y1) = true then true else (!y2)) == false)) (vGValue p2))), (22, (.d (.b (if (!y1) = true then true else (!y2))))), (21, (.d (.b (if (!y1) = true then true else (!y2))))), (20, (.ite (true && ((!y1) == false)) (.d (.b (!y2))))), (19, (.ite (true && ((!y1) == false)) (.d (.b y2)))), (18, (.ite (true && ((!y1) == false)) (vGValue p1))), (17, (.d (.b (!y1)))), (16, (.d (.b (!y1)))), (15, (.d (.b y1))), (14, (.d (.i .i64 p0))), (7, (.d (.i .i64 0))), (6, (.ptr 6 0)), (5, (.ptr 5 0)), (4, (.ptr 4 0)), (0, (.d (.i .i64 p0))), (1, (vGValue p1)), (2, (vGValue p2))], [(6, [(.d (.i .i64 0)), (.d (.i .i64 0)), (.d (.s (bs [])))]), (5, [(.d (.i .i64 p2.kind)), (.d (.i .i64 p2.num)), (.d (.s (bs p2.text)))]), (4, [(.d (.i .i64 p1.kind)), (.d (.i .i64 p1.num)), (.d (.s (bs p1.text)))])]⟩) (by kernel_rfl) ?_
                  refine call_step (m := sL6Num y14.1 y14.2) (args := [(.d (.i .i64 y14.1)), (.d (.b y14.2))]) (v' := (fun y => (.tup [(vGValue y.1), (.d (.i .i64 y.2))]))) h (OK_sL6Num y14.1 y14.2) (by kernel_rfl) (by kernel_rfl) (fun _ => rfl) ?_
                  clear h; intro y15 h
                  refine sts_ok 4 (s' := ⟨[(7, (.d (.i .i64 y15.2))), (111, (.d (.i .i64 y15.2))), (110, (vGValue y15.1)), (109, (.tup [(vGValue y15.1), (.d (.i .i64 y15.2))])), (108, (.d (.b y14.2))), (107, (.d (.i .i64 y14.1))), (13, (.d (.b y14.2))), (12, (.d (.i .i64 y14.1))), (106, (.d (.b y14.2))), (105, (.d (.i .i64 y14.1))), (99, (.tup [(.d (.i .i64 y14.1)), (.d (.b y14.2))])), (104, (.tup [(.d (.i .i64 y14.1)), (.d (.b y14.2))])), (103, (.d (.i .i64 p2.num))), (102, (.ptr 5 1)), (101, (.d (.i .i64 p1.num))), (100, (.ptr 4 1)), (97, (.d (.b (decide (p0 = 12))))), (98, (.d (.b (decide (p0 = 12))))), (82, (.d (.b (decide (p0 = 11))))), (83, (.d (.b (decide (p0 = 11))))), (67, (.d (.b (decide (p0 = 10))))), (68, (.d (.b (decide (p0 = 10))))), (50, (.d (.b (decide (p0 = 9))))), (51, (.d (.b (decide (p0 = 9))))), (49, (.d (.i .i64 p0))), (47, (.d (.b (if y6 = true then true else y7)))), (46, (.ite (true && (y6 == false)) (.d (.b y7)))), (45, (.ite (true && (y6 == false)) (vGValue p2))), (44, (.d (.b y6))), (43, (.d (.b y6))), (42, (vGValue p1)), (40, (.d (.b (!y5)))), (39, (.d (.b y5))), (38, (vGValue p2)), (37, (vGValue p1)), (36, (.d (.i .i64 p0))), (29, (.d (.b (decide (p0 ≤ 2))))), (28, (.d (.i .i64 p0))), (26, (.d (.b (if (if (!y1) = true then true else (!y2)) = true then true else (!y3))))), (25, (.ite (true && ((if (!y1) = true then true else (!y2)) == false)) (.d (.b (!y3))))), (24, (.ite (true && ((if (!y1) = true then true else (!y2)) == false)) (.d (.b y3)))), (23, (.ite (true && ((if (!y1) = true then true else (!y2)) == false)) (vGValue p2))), (22, (.d (.b (if (!y1) = true then true else (!y2))))), (21, (.d (.b (if (!y1) = true then true else (!y2))))), (20, (.ite (true && ((!y1) == false)) (.d (.b (!y2))))), (19, (.ite (true && ((!y1) == false)) (.d (.b y2)))), (18, (.ite (true && ((!y1) == false)) (vGValue p1))), (17, (.d (.b (!y1)))), (16, (.d (.b (!y1)))), (15, (.d (.b y1))), (14, (.d (.i .i64 p0))), (7, (.d (.i .i64 0))), (6, (.ptr 6 0)), (5, (.ptr 5 0)), (4, (.ptr 4 0)), (0, (.d (.i .i64 p0))), (1, (vGValue p1)), (2, (vGValue p2))], [(6, [(.d (.i .i64 y15.1.kind)), (.d (.i .i64 y15.1.num)), (.d (.s (bs y15.1.text)))]), (5, [(.d (.i .i64 p2.kind)), (.d (.i .i64 p2.num)), (.d (.s (bs p2.text)))]), (4, [(.d (.i .i64 p1.kind)), (.d (.i .i64 p1.num)), (.d (.s (bs p1.text)))])]⟩) (by kernel_rfl) ?_
                  refine nil_in ?_
                  refine next_in ?_
                  refine ret_in ?_
                  refine blockK_ret ?_
                  refine thenK_ret ?_
                  have h := Option.some.inj h; subst h
                  exact retn_step (vs := [(vGValue y15.1), (.d (.i .i64 y15.2))]) (by kernel_rfl) (by kernel_rfl)
                · clear h; intro h
                  refine seq_in ?_
                  refine seq_in ?_
                  refine ops_in ?_
                  refine sts_ok 2 (s' := ⟨[(112, (.d (.b (decide (p0 = 13))))), (113, (.d (.b (decide (p0 = 13))))), (97, (.d (.b (decide (p0 = 12))))), (98, (.d (.b (decide (p0 = 12))))), (82, (.d (.b (decide (p0 = 11))))), (83, (.d (.b (decide (p0 = 11))))), (67, (.d (.b (decide (p0 = 10))))), (68, (.d (.b (decide (p0 = 10))))), (50, (.d (.b (decide (p0 = 9))))), (51, (.d (.b (decide (p0 = 9))))), (49, (.d (.i .i64 p0))), (47, (.d (.b (if y6 = true then true else y7)))), (46, (.ite (true && (y6 == false)) (.d (.b y7)))), (45, (.ite (true && (y6 == false)) (vGValue p2))), (44, (.d (.b y6))), (43, (.d (.b y6))), (42, (vGValue p1)), (40, (.d (.b (!y5)))), (39, (.d (.b y5))), (38, (vGValue p2)), (37, (vGValue p1)), (36, (.d (.i .i64 p0))), (29, (.d (.b (decide (p0 ≤ 2))))), (28, (.d (.i .i64 p0))), (26, (.d (.b (if (if (!y1) = true then true else (!y2)) = true then true else (!y3))))), (25, (.ite (true && ((if (!y1) = true then true else (!y2)) == false)) (.d (.b (!y3))))), (24, (.ite (true && ((if (!y1) = true then true else (!y2)) == false)) (.d (.b y3)))), (23, (.ite (true && ((if (!y1) = true then true else (!y2)) == false)) (vGValue p2))), (22, (.d (.b (if (!y1) = true then true else (!y2))))), (21, (.d (.b (if (!y1) = true then true else (!y2))))), (20, (.ite (true && ((!y1) == false)) (.d (.b (!y2))))), (19, (.ite (true && ((!y1) == false)) (.d (.b y2)))), (18, (.ite (true && ((!y1) == false)) (vGValue p1))), (17, (.d (.b (!y1)))), (16, (.d (.b (!y1)))), (15, (.d (.b y1))), (14, (.d (.i .i64 p0))), (7, (.d (.i .i64 0))), (6, (.ptr 6 0)), (5, (.ptr 5 0)), (4, (.ptr 4 0)), (0, (.d (.i .i64 p0))), (1, (vGValue p1)), (2, (vGValue p2))], [(6, [(.d (.i .i64 0)), (.d (.i .i64 0)), (.d (.s (bs [])))]), (5, [(.d (.i .i64 p2.kind)), (.d (.i .i64 p2.num)), (.d (.s (bs p2.text)))]), (4, [(.d (.i .i64 p1.kind)), (.d (.i .i64 p1.num)), (.d (.s (bs p1.text)))])]⟩) (by kernel_rfl) ?_
                  refine nil_in ?_
                  refine next_in ?_
                  refine cond_step h (by kernel_rfl) ?_ ?_
                  · clear h; intro h
                    refine skip_in ?_
                    exact next_step (s' := stsCalc_J0 p0 p1 p2 (decide (p0 = 13))) (wk_ren [] (by kernel_rfl) (er_cons (vr_same (by kernel_rfl) (by kernel_rfl)) (er_cons (vr_same (by kernel_rfl) (by kernel_rfl)) (er_cons (vr_same (by kernel_rfl) (by kernel_rfl)) (er_cons (vr_same (by kernel_rfl) (by kernel_rfl)) (er_cons (vr_same (by kernel_rfl) (by kernel_rfl)) (er_nil)))))) (br_same (by kernel_rfl) (by kernel_rfl) (br_same (by kernel_rfl) (by kernel_rfl) (br_same (by kernel_rfl) (by kernel_rfl) (br_nil))))) (OK_sCalc_J0 p0 p1 p2 (decide (p0 = 13)) _ h)
                  · clear h; intro h
                    refine ops_in ?_
                    refine sts_ok 2 (s' := ⟨[(112, (.d (.b (decide (p0 = 14))))), (114, (.d (.b (decide (p0 = 14))))), (112, (.d (.b (decide (p0 = 13))))), (113, (.d (.b (decide (p0 = 13))))), (97, (.d (.b (decide (p0 = 12))))), (98, (.d (.b (decide (p0 = 12))))), (82, (.d (.b (decide (p0 = 11))))), (83, (.d (.b (decide (p0 = 11))))), (67, (.d (.b (decide (p0 = 10))))), (68, (.d (.b (decide (p0 = 10))))), (50, (.d (.b (decide (p0 = 9))))), (51, (.d (.b (decide (p0 = 9))))), (49, (.d (.i .i64 p0))), (47, (.d (.b (if y6 = true then true else y7)))), (46, (.ite (true && (y6 == false)) (.d (.b y7)))), (45, (.ite (true && (y6 == false)) (vGValue p2))), (44, (.d (.b y6))), (43, (.d (.b y6))), (42, (vGValue p1)), (40, (.d (.b (!y5)))), (39, (.d (.b y5))), (38, (vGValue p2)), (37, (vGValue p1)), (36, (.d (.i .i64 p0))), (29, (.d (.b (decide (p0 ≤ 2))))), (28, (.d (.i .i64 p0))), (26, (.d (.b (if (if (!y1) = true then true else (!y2)) = true then true else (!y3))))), (25, (.ite (true && ((if (!y1) = true then true else (!y2)) == false)) (.d (.b (!y3))))), (24, (.ite (true && ((if (!y1) = true then true else (!y2)) == false)) (.d (.b y3)))), (23, (.ite (true && ((if (!y1) = true then true else (!y2)) == false)) (vGValue p2))), (22, (.d (.b (if (!y1) = true then true else (!y2))))), (21, (.d (.b (if (!y1) = true then true else (!y2))))), (20, (.ite (true && ((!y1) == false)) (.d (.b (!y2))))), (19, (.ite (true && ((!y1) == false)) (.d (.b y2)))), (18, (.ite (true && ((!y1) == false)) (vGValue p1))), (17, (.d (.b (!y1)))), (16, (.d (.b (!y1)))), (15, (.d (.b y1))), (14, (.d (.i .i64 p0))), (7, (.d (.i .i64 0))), (6, (.ptr 6 0)), (5, (.ptr 5 0)), (4, (.ptr 4 0)), (0, (.d (.i .i64 p0))), (1, (vGValue p1)), (2, (vGValue p2))], [(6, [(.d (.i .i64 0)), (.d (.i .i64 0)), (.d (.s (bs [])))]), (5, [(.d (.i .i64 p2.kind)), (.d (.i .i64 p2.num)), (.d (.s (bs p2.text)))]), (4, [(.d (.i .i64 p1.kind)), (.d (.i .i64 p1.num)), (.d (.s (bs p1.text)))])]⟩) (by kernel_rfl) ?_
                    refine nil_in ?_
                    exact next_step (s' := stsCalc_J0 p0 p1 p2 (decide (p0 = 14))) (wk_ren [] (by kernel_rfl) (er_cons (vr_same (by kernel_rfl) (by kernel_rfl)) (er_cons (vr_same (by kernel_rfl) (by kernel_rfl)) (er_cons (vr_same (by kernel_rfl) (by kernel_rfl)) (er_cons (vr_same (by kernel_rfl) (by kernel_rfl)) (er_cons (vr_same (by kernel_rfl) (by kernel_rfl)) (er_nil)))))) (br_same (by kernel_rfl) (by kernel_rfl) (br_same (by kernel_rfl) (by kernel_rfl) (br_same (by kernel_rfl) (by kernel_rfl) (br_nil))))) (OK_sCalc_J0 p0 p1 p2 (decide (p0 = 14)) _ h)
theorem OKs_sWithin_L0 (p1 : (List GValue)) (p0 : GValue) : (∀ (x7 : Int) (b6_0 : Int) (b6_1 : Int) (b6_2 : (List UInt8)) (r : GValue × Int), sWithin_L0 p1 p0 x7 b6_0 b6_1 b6_2 = some r → avc Try.prog acsWithin_L0 (qsWithin_1 r) (stsWithin_L0 p1 p0 x7 b6_0 b6_1 b6_2)) := by
  refine sWithin_L0.partial_correctness p1 p0 (fun x7 b6_0 b6_1 b6_2 r => avc Try.prog acsWithin_L0 (qsWithin_1 r) (stsWithin_L0 p1 p0 x7 b6_0 b6_1 b6_2)) ?_
  · intro F_sWithin_L0 OK_sWithin_L0 x7 b6_0 b6_1 b6_2 r h
    delta acsWithin_L0
    refine loop_unroll ?_
    refine seq_in ?_
    refine seq_in ?_
    refine ops_in ?_
    refine sts_ok 2 (s' := ⟨(12, (.d (.sl 3 (p1.map cGValue)))) :: (11, (.d (.i .i64 x7))) :: (stsWithin_L0 p1 p0 x7 b6_0 b6_1 b6_2).env, (stsWithin_L0 p1 p0 x7 b6_0 b6_1 b6_2).bx⟩) (by kernel_rfl) ?_
    refine p_step (v' := (.d (.i .i64 (p1.length : Int)))) rfl rfl (vop_len (sz := 3) (l := p1) (f := cGValue) (by kernel_rfl) (by kernel_rfl)) ?_
    refine sts_ok 1 (s' := ⟨(14, (.d (.b (decide (x7 < (p1.length : Int)))))) :: (13, (.d (.i .i64 (p1.length : Int)))) :: (12, (.d (.sl 3 (p1.map cGValue)))) :: (11, (.d (.i .i64 x7))) :: (stsWithin_L0 p1 p0 x7 b6_0 b6_1 b6_2).env, (stsWithin_L0 p1 p0 x7 b6_0 b6_1 b6_2).bx⟩) (by kernel_rfl) ?_
    refine nil_in ?_
    refine next_in ?_
    refine cond_step h (by kernel_rfl) ?_ ?_
    · clear h; intro h
      refine skip_in ?_
      refine next_in ?_
      refine seq_in ?_
      refine block_in ?_
      refine seq_in ?_
      refine dops_in ?_
      refine dsts_ok 3 (s' := ⟨(20, (.d (.i .i64 x7))) :: (19, (.d (.sl 3 (p1.map cGValue)))) :: (18, (vGValue p0)) :: (14, (.d (.b (decide (x7 < (p1.length : Int)))))) :: (13, (.d (.i .i64 (p1.length : Int)))) :: (12, (.d (.sl 3 (p1.map cGValue)))) :: (11, (.d (.i .i64 x7))) :: (stsWithin_L0 p1 p0 x7 b6_0 b6_1 b6_2).env, (stsWithin_L0 p1 p0 x7 b6_0 b6_1 b6_2).bx⟩) (by kernel_rfl) ?_
      refine dv_step (m := idx p1 x7) (v' := fun y => (.rp [(.i .i64 y.kind), (.i .i64 y.num), (.s (bs y.text))])) h rfl rfl (fun y hy => vop_ia (l := p1) (f := cGValue) (g := cGValue) (k := .i64) hy (fun _ => rfl) (by kernel_rfl) (by kernel_rfl) (by kernel_rfl)) ?_
      clear h; intro y2 h
      refine dsts_ok 1 (s' := ⟨(22, (vGValue y2)) :: (21, (.rp [(.i .i64 y2.kind), (.i .i64 y2.num), (.s (bs y2.text))])) :: (20, (.d (.i .i64 x7))) :: (19, (.d (.sl 3 (p1.map cGValue)))) :: (18, (vGValue p0)) :: (14, (.d (.b (decide (x7 < (p1.length : Int)))))) :: (13, (.d (.i .i64 (p1.length : Int)))) :: (12, (.d (.sl 3 (p1.map cGValue)))) :: (11, (.d (.i .i64 x7))) :: (stsWithin_L0 p1 p0 x7 b6_0 b6_1 b6_2).env, (stsWithin_L0 p1 p0 x7 b6_0 b6_1 b6_2).bx⟩) (by kernel_rfl) ?_
      refine dcall_step (m := sCalc 3 p0 y2) (args := [(.d (.i .i64 3)), (vGValue p0), (vGValue y2)]) (v' := (fun y => (.tup [(vGValue y.1), (.d (.i .i64 y.2))]))) h (OK_sCalc 3 p0 y2) (by kernel_rfl) (by kernel_rfl) (fun _ => rfl) ?_
      clear h; intro y3 h
      refine dsts_ok 6 (s' := ⟨(9, (.d (.i .i64 y3.2))) :: (8, (.ptr 8 0)) :: (25, (.d (.i .i64 y3.2))) :: (24, (vGValue y3.1)) :: (17, (.tup [(vGValue y3.1), (.d (.i .i64 y3.2))])) :: (23, (.tup [(vGValue y3.1), (.d (.i .i64 y3.2))])) :: (22, (vGValue y2)) :: (21, (.rp [(.i .i64 y2.kind), (.i .i64 y2.num), (.s (bs y2.text))])) :: (20, (.d (.i .i64 x7))) :: (19, (.d (.sl 3 (p1.map cGValue)))) :: (18, (vGValue p0)) :: (14, (.d (.b (decide (x7 < (p1.length : Int)))))) :: (13, (.d (.i .i64 (p1.length : Int)))) :: (12, (.d (.sl 3 (p1.map cGValue)))) :: (11, (.d (.i .i64 x7))) :: (stsWithin_L0 p1 p0 x7 b6_0 b6_1 b6_2).env, [(8, [(.d (.i .i64 y3.1.kind)), (.d (.i .i64 y3.1.num)), (.d (.s (bs y3.1.text)))]), (2, [(.d (.i .i64 p0.kind)), (.d (.i .i64 p0.num)), (.d (.s (bs p0.text)))]), (4, [(.d (.i .i64 0)), (.d (.i .i64 0)), (.d (.s (bs [])))]), (6, [(.d (.i .i64 b6_0)), (.d (.i .i64 b6_1)), (.d (.s (bs b6_2)))])]⟩) (by kernel_rfl) ?_
      refine dnil_in (by kernel_rfl) (by kernel_rfl) ?_
      refine next_in ?_
      refine seq_in ?_
      refine seq_in ?_
      refine ops_in ?_
      refine sts_ok 2 (s' := ⟨(27, (.d (.b (!decide (y3.2 = 0))))) :: (26, (.d (.i .i64 y3.2))) :: (9, (.d (.i .i64 y3.2))) :: (8, (.ptr 8 0)) :: (25, (.d (.i .i64 y3.2))) :: (24, (vGValue y3.1)) :: (17, (.tup [(vGValue y3.1), (.d (.i .i64 y3.2))])) :: (23, (.tup [(vGValue y3.1), (.d (.i .i64 y3.2))])) :: (22, (vGValue y2)) :: (21, (.rp [(.i .i64 y2.kind), (.i .i64 y2.num), (.s (bs y2.text))])) :: (20, (.d (.i .i64 x7))) :: (19, (.d (.sl 3 (p1.map cGValue)))) :: (18, (vGValue p0)) :: (14, (.d (.b (decide (x7 < (p1.length : Int)))))) :: (13, (.d (.i .i64 (p1.length : Int)))) :: (12, (.d (.sl 3 (p1.map cGValue)))) :: (11, (.d (.i .i64 x7))) :: (stsWithin_L0 p1 p0 x7 b6_0 b6_1 b6_2).env, [(8, [(.d (.i .i64 y3.1.kind)), (.d (.i .i64 y3.1.num)), (.d (.s (bs y3.1.text)))]), (2, [(.d (.i .i64 p0.kind)), (.d (.i .i64 p0.num)), (.d (.s (bs p0.text)))]), (4, [(.d (.i .i64 0)), (.d (.i .i64 0)), (.d (.s (bs [])))]), (6, [(.d (.i .i64 b6_0)), (.d (.i .i64 b6_1)), (.d (.s (bs b6_2)))])]⟩) (by kernel_rfl) ?_
      refine nil_in ?_
      refine next_in ?_
      refine cond_step h (by kernel_rfl) ?_ ?_
      · clear h; intro h
        refine seq_in ?_
        refine ops_in ?_
        refine sts_ok 4 (s' := ⟨(5, (.d (.i .i64 y3.2))) :: (29, (.d (.i .i64 y3.2))) :: (28, (vGValue (GValue.mk 0 0 []))) :: (27, (.d (.b (!decide (y3.2 = 0))))) :: (26, (.d (.i .i64 y3.2))) :: (9, (.d (.i .i64 y3.2))) :: (8, (.ptr 8 0)) :: (25, (.d (.i .i64 y3.2))) :: (24, (vGValue y3.1)) :: (17, (.tup [(vGValue y3.1), (.d (.i .i64 y3.2))])) :: (23, (.tup [(vGValue y3.1), (.d (.i .i64 y3.2))])) :: (22, (vGValue y2)) :: (21, (.rp [(.i .i64 y2.kind), (.i .i64 y2.num), (.s (bs y2.text))])) :: (20, (.d (.i .i64 x7))) :: (19, (.d (.sl 3 (p1.map cGValue)))) :: (18, (vGValue p0)) :: (14, (.d (.b (decide (x7 < (p1.length : Int)))))) :: (13, (.d (.i .i64 (p1.length : Int)))) :: (12, (.d (.sl 3 (p1.map cGValue)))) :: (11, (.d (.i .i64 x7))) :: (stsWithin_L0 p1 p0 x7 b6_0 b6_1 b6_2).env, [(8, [(.d (.i .i64 y3.1.kind)), (.d (.i .i64 y3.1.num)), (.d (.s (bs y3.1.text)))]), (2, [(.d (.i .i64 p0.kind)), (.d (.i .i64 p0.num)), (.d (.s (bs p0.text)))]), (4, [(.d (.i .i64 0)), (.d (.i .i64 0)), (.d (.s (bs [])))]), (6, [(.d (.i .i64 b6_0)), (.d (.i .i64 b6_1)), (.d (.s (bs b6_2)))])]⟩) (by kernel_rfl) ?_
        refine nil_in ?_
        refine next_in ?_
        refine ret_in ?_
        refine thenK_ret ?_
        refine blockK_ret ?_
        refine thenK_ret ?_
        refine thenK_ret ?_
        refine blockK_ret ?_
        refine thenK_ret ?_
        have h := Option.some.inj h; subst h
        exact retn_step (vs := [(vGValue (GValue.mk 0 0 [])), (.d (.i .i64 y3.2))]) (by kernel_rfl) (by kernel_rfl)
      · clear h; intro h
        refine skip_in ?_
        refine next_in ?_
        refine ops_in ?_
        refine sts_ok 2 (s' := ⟨(32, (vGValue y3.1)) :: (31, (vGValue (GValue.mk b6_0 b6_1 b6_2))) :: (27, (.d (.b (!decide (y3.2 = 0))))) :: (26, (.d (.i .i64 y3.2))) :: (9, (.d (.i .i64 y3.2))) :: (8, (.ptr 8 0)) :: (25, (.d (.i .i64 y3.2))) :: (24, (vGValue y3.1)) :: (17, (.tup [(vGValue y3.1), (.d (.i .i64 y3.2))])) :: (23, (.tup [(vGValue y3.1), (.d (.i .i64 y3.2))])) :: (22, (vGValue y2)) :: (21, (.rp [(.i .i64 y2.kind), (.i .i64 y2.num), (.s (bs y2.text))])) :: (20, (.d (.i .i64 x7))) :: (19, (.d (.sl 3 (p1.map cGValue)))) :: (18, (vGValue p0)) :: (14, (.d (.b (decide (x7 < (p1.length : Int)))))) :: (13, (.d (.i .i64 (p1.length : Int)))) :: (12, (.d (.sl 3 (p1.map cGValue)))) :: (11, (.d (.i .i64 x7))) :: (stsWithin_L0 p1 p0 x7 b6_0 b6_1 b6_2).env, [(8, [(.d (.i .i64 y3.1.kind)), (.d (.i .i64 y3.1.num)), (.d (.s (bs y3.1.text)))]), (2, [(.d (.i .i64 p0.kind)), (.d (.i .i64 p0.num)), (.d (.s (bs p0.text)))]), (4, [(.d (.i .i64 0)), (.d (.i .i64 0)), (.d (.s (bs [])))]), (6, [(.d (.i .i64 b6_0)), (.d (.i .i64 b6_1)), (.d (.s (bs b6_2)))])]⟩) (by kernel_rfl) ?_
        refine call_step (m := sCalc 1 (GValue.mk b6_0 b6_1 b6_2) y3.1) (args := [(.d (.i .i64 1)), (vGValue (GValue.mk b6_0 b6_1 b6_2)), (vGValue y3.1)]) (v' := (fun y => (.tup [(vGValue y.1), (.d (.i .i64 y.2))]))) h (OK_sCalc 1 (GValue.mk b6_0 b6_1 b6_2) y3.1) (by kernel_rfl) (by kernel_rfl) (fun _ => rfl) ?_
        clear h; intro y4 h
        refine sts_ok 4 (s' := ⟨(35, (.d (.i .i64 y4.2))) :: (34, (vGValue y4.1)) :: (30, (.tup [(vGValue y4.1), (.d (.i .i64 y4.2))])) :: (33, (.tup [(vGValue y4.1), (.d (.i .i64 y4.2))])) :: (32, (vGValue y3.1)) :: (31, (vGValue (GValue.mk b6_0 b6_1 b6_2))) :: (27, (.d (.b (!decide (y3.2 = 0))))) :: (26, (.d (.i .i64 y3.2))) :: (9, (.d (.i .i64 y3.2))) :: (8, (.ptr 8 0)) :: (25, (.d (.i .i64 y3.2))) :: (24, (vGValue y3.1)) :: (17, (.tup [(vGValue y3.1), (.d (.i .i64 y3.2))])) :: (23, (.tup [(vGValue y3.1), (.d (.i .i64 y3.2))])) :: (22, (vGValue y2)) :: (21, (.rp [(.i .i64 y2.kind), (.i .i64 y2.num), (.s (bs y2.text))])) :: (20, (.d (.i .i64 x7))) :: (19, (.d (.sl 3 (p1.map cGValue)))) :: (18, (vGValue p0)) :: (14, (.d (.b (decide (x7 < (p1.length : Int)))))) :: (13, (.d (.i .i64 (p1.length : Int)))) :: (12, (.d (.sl 3 (p1.map cGValue)))) :: (11, (.d (.i .i64 x7))) :: (stsWithin_L0 p1 p0 x7 b6_0 b6_1 b6_2).env, [(8, [(.d (.i .i64 y3.1.kind)), (.d (.i .i64 y3.1.num)), (.d (.s (bs y3.1.text)))]), (2, [(.d (.i .i64 p0.kind)), (.d (.i .i64 p0.num)), (.d (.s (bs p0.text)))]), (4, [(.d (.i .i64 0)), (.d (.i .i64 0)), (.d (.s (bs [])))]), (6, [(.d (.i .i64 y4.1.kind)), (.d (.i .i64 y4.1.num)), (.d (.s (bs y4.1.text)))])]⟩) (by kernel_rfl) ?_
        refine nil_in ?_
        refine blockK_norm ?_
        refine next_in ?_
        refine ops_in ?_
        refine sts_ok 3 (s' := ⟨(7, (.d (.i .i64 (IntKind.wrap .i64 (x7 + 1))))) :: (16, (.d (.i .i64 (IntKind.wrap .i64 (x7 + 1))))) :: (15, (.d (.i .i64 x7))) :: (35, (.d (.i .i64 y4.2))) :: (34, (vGValue y4.1)) :: (30, (.tup [(vGValue y4.1), (.d (.i .i64 y4.2))])) :: (33, (.tup [(vGValue y4.1), (.d (.i .i64 y4.2))])) :: (32, (vGValue y3.1)) :: (31, (vGValue (GValue.mk b6_0 b6_1 b6_2))) :: (27, (.d (.b (!decide (y3.2 = 0))))) :: (26, (.d (.i .i64 y3.2))) :: (9, (.d (.i .i64 y3.2))) :: (8, (.ptr 8 0)) :: (25, (.d (.i .i64 y3.2))) :: (24, (vGValue y3.1)) :: (17, (.tup [(vGValue y3.1), (.d (.i .i64 y3.2))])) :: (23, (.tup [(vGValue y3.1), (.d (.i .i64 y3.2))])) :: (22, (vGValue y2)) :: (21, (.rp [(.i .i64 y2.kind), (.i .i64 y2.num), (.s (bs y2.text))])) :: (20, (.d (.i .i64 x7))) :: (19, (.d (.sl 3 (p1.map cGValue)))) :: (18, (vGValue p0)) :: (14, (.d (.b (decide (x7 < (p1.length : Int)))))) :: (13, (.d (.i .i64 (p1.length : Int)))) :: (12, (.d (.sl 3 (p1.map cGValue)))) :: (11, (.d (.i .i64 x7))) :: (stsWithin_L0 p1 p0 x7 b6_0 b6_1 b6_2).env, [(8, [(.d (.i .i64 y3.1.kind)), (.d (.i .i64 y3.1.num)), (.d (.s (bs y3.1.text)))]), (2, [(.d (.i .i64 p0.kind)), (.d (.i .i64 p0.num)), (.d (.s (bs p0.text)))]), (4, [(.d (.i .i64 0)), (.d (.i .i64 0)), (.d (.s (bs [])))]), (6, [(.d (.i .i64 y4.1.kind)), (.d (.i .i64 y4.1.num)), (.d (.s (bs y4.1.text)))])]⟩) (by kernel_rfl) ?_
        refine nil_in ?_
        exact loop_back (s' := stsWithin_L0 p1 p0 (IntKind.wrap .i64 (x7 + 1)) y4.1.kind y4.1.num y4.1.text) (wk_ren [] (by kernel_rfl) (er_cons (vr_same (by kernel_rfl) (by kernel_rfl)) (er_cons (vr_same (by kernel_rfl) (by kernel_rfl)) (er_cons (vr_same (by kernel_rfl) (by kernel_rfl)) (er_cons (vr_same (by kernel_rfl) (by kernel_rfl)) (er_cons (vr_same (by kernel_rfl) (by kernel_rfl)) (er_nil)))))) (br_same (by kernel_rfl) (by kernel_rfl) (br_same (by kernel_rfl) (by kernel_rfl) (br_same (by kernel_rfl) (by kernel_rfl) (br_nil))))) (OK_sWithin_L0 (IntKind.wrap .i64 (x7 + 1)) y4.1.kind y4.1.num y4.1.text _ h)
    · clear h; intro h
      refine exit_in ?_
      refine thenK_exit ?_
      refine thenK_exit ?_
      refine blockK_here ?_
      refine next_in ?_
      refine seq_in ?_
      refine ops_in ?_
      refine sts_ok 3 (s' := ⟨(5, (.d (.i .i64 0))) :: (36, (vGValue (GValue.mk b6_0 b6_1 b6_2))) :: (14, (.d (.b (decide (x7 < (p1.length : Int)))))) :: (13, (.d (.i .i64 (p1.length : Int)))) :: (12, (.d (.sl 3 (p1.map cGValue)))) :: (11, (.d (.i .i64 x7))) :: (stsWithin_L0 p1 p0 x7 b6_0 b6_1 b6_2).env, [(2, [(.d (.i .i64 p0.kind)), (.d (.i .i64 p0.num)), (.d (.s (bs p0.text)))]), (4, [(.d (.i .i64 b6_0)), (.d (.i .i64 b6_1)), (.d (.s (bs b6_2)))]), (6, [(.d (.i .i64 b6_0)), (.d (.i .i64 b6_1)), (.d (.s (bs b6_2)))])]⟩) (by kernel_rfl) ?_
      refine nil_in ?_
      refine next_in ?_
      refine ret_in ?_
      have h := Option.some.inj h; subst h
      exact retn_step (vs := [(vGValue (GValue.mk b6_0 b6_1 b6_2)), (.d (.i .i64 0))]) (by kernel_rfl) (by kernel_rfl)
theorem OK_sWithin_L0 (p1 : (List GValue)) (p0 : GValue) (x7 : Int) (b6_0 : Int) (b6_1 : Int) (b6_2 : (List UInt8)) (r : GValue × Int) (h : sWithin_L0 p1 p0 x7 b6_0 b6_1 b6_2 = some r) : avc Try.prog acsWithin_L0 (qsWithin_1 r) (stsWithin_L0 p1 p0 x7 b6_0 b6_1 b6_2) := (OKs_sWithin_L0 p1 p0) x7 b6_0 b6_1 b6_2 r h
theorem OK_sWithin (p0 : GValue) (p1 : (List GValue)) : FOk Try.prog 31 [(vGValue p0), (.d (.sl 3 (p1.map cGValue)))] (fun y => (.tup [(vGValue y.1), (.d (.i .i64 y.2))])) (sWithin p0 p1) := by
  intro r h
  rw [sWithin] at h
  refine acalls_of_fn trsWithin (Nat.le_of_ble_eq_true rfl) (by simp) ?_
  show avc Try.prog acsWithin (qsWithin _) ⟨[(0, (vGValue p0)), (1, (.d (.sl 3 (p1.map cGValue))))], []⟩
  delta acsWithin
  refine seq_in ?_
  refine ops_in ?_
  refine sts_ok 3 (s' := ⟨[(5, (.d (.i .i64 0))), (4, (.ptr 4 0)), (2, (.ptr 2 0)), (0, (vGValue p0)), (1, (.d (.sl 3 (p1.map cGValue))))], [(4, [(.d (.i .i64 0)), (.d (.i .i64 0)), (.d (.s (bs [])))]), (2, [(.d (.i .i64 p0.kind)), (.d (.i .i64 p0.num)), (.d (.s (bs p0.text)))])]⟩) (by kernel_rfl) ?_
  refine nil_in ?_
  refine next_in ?_
  refine seq_in ?_
  refine ops_in ?_
  refine call_step (m := sBoolValue false) (args := [(.d (.b false))]) (v' := (fun y => (vGValue y))) h (OK_sBoolValue false) (by kernel_rfl) (by kernel_rfl) (fun _ => rfl) ?_
  clear h; intro y1 h
  refine sts_ok 2 (s' := ⟨[(6, (.ptr 6 0)), (10, (vGValue y1)), (5, (.d (.i .i64 0))), (4, (.ptr 4 0)), (2, (.ptr 2 0)), (0, (vGValue p0)), (1, (.d (.sl 3 (p1.map cGValue))))], [(6, [(.d (.i .i64 y1.kind)), (.d (.i .i64 y1.num)), (.d (.s (bs y1.text)))]), (4, [(.d (.i .i64 0)), (.d (.i .i64 0)), (.d (.s (bs [])))]), (2, [(.d (.i .i64 p0.kind)), (.d (.i .i64 p0.num)), (.d (.s (bs p0.text)))])]⟩) (by kernel_rfl) ?_
  refine nil_in ?_
  refine next_in ?_
  refine seq_in ?_
  refine seq_in ?_
  refine ops_in ?_
  refine sts_ok 1 (s' := ⟨[(7, (.d (.i .i64 0))), (6, (.ptr 6 0)), (10, (vGValue y1)), (5, (.d (.i .i64 0))), (4, (.ptr 4 0)), (2, (.ptr 2 0)), (0, (vGValue p0)), (1, (.d (.sl 3 (p1.map cGValue))))], [(6, [(.d (.i .i64 y1.kind)), (.d (.i .i64 y1.num)), (.d (.s (bs y1.text)))]), (4, [(.d (.i .i64 0)), (.d (.i .i64 0)), (.d (.s (bs [])))]), (2, [(.d (.i .i64 p0.kind)), (.d (.i .i64 p0.num)), (.d (.s (bs p0.text)))])]⟩) (by kernel_rfl) ?_
  refine nil_in ?_
  refine next_in ?_
  refine block_in ?_
  exact loop_go (s' := stsWithin_L0 p1 p0 0 y1.kind y1.num y1.text) (wk_ren [] (by kernel_rfl) (er_cons (vr_same (by kernel_rfl) (by kernel_rfl)) (er_cons (vr_same (by kernel_rfl) (by kernel_rfl)) (er_cons (vr_same (by kernel_rfl) (by kernel_rfl)) (er_cons (vr_same (by kernel_rfl) (by kernel_rfl)) (er_cons (vr_same (by kernel_rfl) (by kernel_rfl)) (er_nil)))))) (br_same (by kernel_rfl) (by kernel_rfl) (br_same (by kernel_rfl) (by kernel_rfl) (br_same (by kernel_rfl) (by kernel_rfl) (br_nil))))) (OK_sWithin_L0 p1 p0 0 y1.kind y1.num y1.text _ h)
theorem OK_wBig (p0 : (List Int)) : FOk Try.prog 14 [(.d (.sl 1 (p0.map cU8)))] (fun y => (.d (.b y))) (wBig p0) := by
  intro r h
  rw [wBig] at h
  refine acalls_of_fn trwBig (Nat.le_of_ble_eq_true rfl) (by simp) ?_
  show avc Try.prog acwBig (qwBig _) ⟨[(0, (.d (.sl 1 (p0.map cU8))))], []⟩
  delta acwBig
  refine seq_in ?_
  refine ops_in ?_
  refine sts_ok 1 (s' := ⟨[(2, (.d (.b false))), (0, (.d (.sl 1 (p0.map cU8))))], []⟩) (by kernel_rfl) ?_
  refine nil_in ?_
  refine next_in ?_
  refine seq_in ?_
  refine ops_in ?_
  refine sts_ok 1 (s' := ⟨[(3, (.d (.sl 1 (p0.map cU8)))), (2, (.d (.b false))), (0, (.d (.sl 1 (p0.map cU8))))], []⟩) (by kernel_rfl) ?_
  refine p_step (v' := (.d (.i .i64 (p0.length : Int)))) rfl rfl (vop_len (sz := 1) (l := p0) (f := cU8) (by kernel_rfl) (by kernel_rfl)) ?_
  refine sts_ok 2 (s' := ⟨[(2, (.d (.b (decide (1048576 < (p0.length : Int)))))), (5, (.d (.b (decide (1048576 < (p0.length : Int)))))), (4, (.d (.i .i64 (p0.length : Int)))), (3, (.d (.sl 1 (p0.map cU8)))), (2, (.d (.b false))), (0, (.d (.sl 1 (p0.map cU8))))], []⟩) (by kernel_rfl) ?_
  refine nil_in ?_
  refine next_in ?_
  refine ret_in ?_
  have h := Option.some.inj h; subst h
  exact ret1_step (v := (.d (.b (decide (1048576 < (p0.length : Int)))))) (by kernel_rfl) (by kernel_rfl) (by kernel_rfl)
end Go.Proofs.Ytlohdmekmmjjlaa
