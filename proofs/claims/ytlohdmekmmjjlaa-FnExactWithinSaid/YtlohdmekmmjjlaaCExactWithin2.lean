/- That the code computes these functions (printed by a program). -/
import Derived.Test.YtlohdmekmmjjlaaCExactWithin1
namespace Go.Proofs.Ytlohdmekmmjjlaa
open Go Go.RowKit Go.Ab
theorem OK_sMulNum (p0 : Int) (p1 : Int) : FOk Try.prog 130 [(.d (.i .i64 p0)), (.d (.i .i64 p1))] (fun y => (.tup [(.d (.i .i64 y.1)), (.d (.b y.2))])) (sMulNum p0 p1) := by
  intro r h
  rw [sMulNum] at h
  refine acalls_of_fn trsMulNum (Nat.le_of_ble_eq_true rfl) (by simp) ?_
  show avc Try.prog acsMulNum (qsMulNum _) ⟨[(0, (.d (.i .i64 p0))), (1, (.d (.i .i64 p1)))], []⟩
  delta acsMulNum
  refine seq_in ?_
  refine ops_in ?_
  refine sts_ok 2 (s' := ⟨[(5, (.d (.b false))), (4, (.d (.i .i64 0))), (0, (.d (.i .i64 p0))), (1, (.d (.i .i64 p1)))], []⟩) (by kernel_rfl) ?_
  refine nil_in ?_
  refine next_in ?_
  refine seq_in ?_
  refine seq_in ?_
  refine ops_in ?_
  refine sts_ok 3 (s' := ⟨[(9, (.d (.b (decide (p0 = 0))))), (8, (.d (.b (decide (p0 = 0))))), (7, (.d (.i .i64 p0))), (5, (.d (.b false))), (4, (.d (.i .i64 0))), (0, (.d (.i .i64 p0))), (1, (.d (.i .i64 p1)))], []⟩) (by kernel_rfl) ?_
  refine gp_step (p := true) (b := (decide (p0 = 0))) (v' := (.d (.i .i64 p1))) (by kernel_rfl) rfl rfl (fun hc => vop_val1 (by kernel_rfl) (by kernel_rfl)) ?_
  refine gp_step (p := true) (b := (decide (p0 = 0))) (v' := (.d (.b (decide (p1 = 0))))) (by kernel_rfl) rfl rfl (fun hc => vop_val1 (Eq.trans (b := ([(true && ((decide (p0 = 0)) == false))] : List Bool).all id) (by kernel_rfl) (all_c hc rfl)) (by kernel_rfl)) ?_
  refine p_step (v' := (.d (.b (if (decide (p0 = 0)) = true then true else (decide (p1 = 0)))))) rfl rfl (vop_pick (b := (decide (p0 = 0))) (p := true) (u := true) (q := (true && ((decide (p0 = 0)) == false))) (v := (decide (p1 = 0))) (by kernel_rfl) (by kernel_rfl) (by kernel_rfl) (by kernel_rfl) (fun _ => rfl) (fun hb => gc_f rfl hb)) ?_
  refine nil_in ?_
  refine next_in ?_
  refine cond_step h (by kernel_rfl) ?_ ?_
  · clear h; intro h
    refine seq_in ?_
    refine ops_in ?_
    refine sts_ok 2 (s' := ⟨[(5, (.d (.b true))), (4, (.d (.i .i64 0))), (12, (.d (.b (if (decide (p0 = 0)) = true then true else (decide (p1 = 0)))))), (11, (.ite (true && ((decide (p0 = 0)) == false)) (.d (.b (decide (p1 = 0)))))), (10, (.ite (true && ((decide (p0 = 0)) == false)) (.d (.i .i64 p1)))), (9, (.d (.b (decide (p0 = 0))))), (8, (.d (.b (decide (p0 = 0))))), (7, (.d (.i .i64 p0))), (5, (.d (.b false))), (4, (.d (.i .i64 0))), (0, (.d (.i .i64 p0))), (1, (.d (.i .i64 p1)))], []⟩) (by kernel_rfl) ?_
    refine nil_in ?_
    refine next_in ?_
    refine ret_in ?_
    refine thenK_ret ?_
    have h := Option.some.inj h; subst h
    exact retn_step (vs := [(.d (.i .i64 0)), (.d (.b true))]) (by kernel_rfl) (by kernel_rfl)
  · clear h; intro h
    refine skip_in ?_
    refine next_in ?_
    refine seq_in ?_
    refine seq_in ?_
    refine ops_in ?_
    refine sts_ok 3 (s' := ⟨[(15, (.d (.b (decide (p0 = (-1)))))), (14, (.d (.b (decide (p0 = (-1)))))), (13, (.d (.i .i64 p0))), (12, (.d (.b (if (decide (p0 = 0)) = true then true else (decide (p1 = 0)))))), (11, (.ite (true && ((decide (p0 = 0)) == false)) (.d (.b (decide (p1 = 0)))))), (10, (.ite (true && ((decide (p0 = 0)) == false)) (.d (.i .i64 p1)))), (9, (.d (.b (decide (p0 = 0))))), (8, (.d (.b (decide (p0 = 0))))), (7, (.d (.i .i64 p0))), (5, (.d (.b false))), (4, (.d (.i .i64 0))), (0, (.d (.i .i64 p0))), (1, (.d (.i .i64 p1)))], []⟩) (by kernel_rfl) ?_
    refine gp_step (p := true) (b := (decide (p0 = (-1)))) (v' := (.d (.i .i64 p1))) (by kernel_rfl) rfl rfl (fun hc => vop_val1 (by kernel_rfl) (by kernel_rfl)) ?_
    refine gp_step (p := true) (b := (decide (p0 = (-1)))) (v' := (.d (.b (decide (p1 = (-9223372036854775808)))))) (by kernel_rfl) rfl rfl (fun hc => vop_val1 (Eq.trans (b := ([(true && ((decide (p0 = (-1))) == true))] : List Bool).all id) (by kernel_rfl) (all_c hc rfl)) (by kernel_rfl)) ?_
    refine p_step (v' := (.d (.b (if (decide (p0 = (-1))) = true then (decide (p1 = (-9223372036854775808))) else false)))) rfl rfl (vop_pick (b := (decide (p0 = (-1)))) (p := (true && ((decide (p0 = (-1))) == true))) (u := (decide (p1 = (-9223372036854775808)))) (q := true) (v := false) (by kernel_rfl) (by kernel_rfl) (by kernel_rfl) (by kernel_rfl) (fun hb => gc_t rfl hb) (fun _ => rfl)) ?_
    refine sts_ok 1 (s' := ⟨[(19, (.d (.b (if (decide (p0 = (-1))) = true then (decide (p1 = (-9223372036854775808))) else false)))), (18, (.d (.b (if (decide (p0 = (-1))) = true then (decide (p1 = (-9223372036854775808))) else false)))), (17, (.ite (true && ((decide (p0 = (-1))) == true)) (.d (.b (decide (p1 = (-9223372036854775808))))))), (16, (.ite (true && ((decide (p0 = (-1))) == true)) (.d (.i .i64 p1)))), (15, (.d (.b (decide (p0 = (-1)))))), (14, (.d (.b (decide (p0 = (-1)))))), (13, (.d (.i .i64 p0))), (12, (.d (.b (if (decide (p0 = 0)) = true then true else (decide (p1 = 0)))))), (11, (.ite (true && ((decide (p0 = 0)) == false)) (.d (.b (decide (p1 = 0)))))), (10, (.ite (true && ((decide (p0 = 0)) == false)) (.d (.i .i64 p1)))), (9, (.d (.b (decide (p0 = 0))))), (8, (.d (.b (decide (p0 = 0))))), (7, (.d (.i .i64 p0))), (5, (.d (.b false))), (4, (.d (.i .i64 0))), (0, (.d (.i .i64 p0))), (1, (.d (.i .i64 p1)))], []⟩) (by kernel_rfl) ?_
    refine gp_step (p := true) (b := (if (decide (p0 = (-1))) = true then (decide (p1 = (-9223372036854775808))) else false)) (v' := (.d (.i .i64 p1))) (by kernel_rfl) rfl rfl (fun hc => vop_val1 (by kernel_rfl) (by kernel_rfl)) ?_
    refine gp_step (p := true) (b := (if (decide (p0 = (-1))) = true then (decide (p1 = (-9223372036854775808))) else false)) (v' := (.d (.b (decide (p1 = (-1)))))) (by kernel_rfl) rfl rfl (fun hc => vop_val1 (Eq.trans (b := ([(true && ((if (decide (p0 = (-1))) = true then (decide (p1 = (-9223372036854775808))) else false) == false))] : List Bool).all id) (by kernel_rfl) (all_c hc rfl)) (by kernel_rfl)) ?_
    refine gp_step (p := true) (b := (if (decide (p0 = (-1))) = true then (decide (p1 = (-9223372036854775808))) else false)) (v' := (.d (.b (decide (p1 = (-1)))))) (by kernel_rfl) rfl rfl (fun hc => vop_val1 (Eq.trans (b := ([(true && ((if (decide (p0 = (-1))) = true then (decide (p1 = (-9223372036854775808))) else false) == false))] : List Bool).all id) (by kernel_rfl) (all_c hc rfl)) (by kernel_rfl)) ?_
    refine gp_step (p := (true && ((if (decide (p0 = (-1))) = true then (decide (p1 = (-9223372036854775808))) else false) == false))) (b := (decide (p1 = (-1)))) (v' := (.d (.i .i64 p0))) (by kernel_rfl) rfl rfl (fun hc => vop_val1 (by kernel_rfl) (by kernel_rfl)) ?_
    refine gp_step (p := (true && ((if (decide (p0 = (-1))) = true then (decide (p1 = (-9223372036854775808))) else false) == false))) (b := (decide (p1 = (-1)))) (v' := (.d (.b (decide (p0 = (-9223372036854775808)))))) (by kernel_rfl) rfl rfl (fun hc => vop_val1 (Eq.trans (b := ([((true && ((if (decide (p0 = (-1))) = true then (decide (p1 = (-9223372036854775808))) else false) == false)) && ((decide (p1 = (-1))) == true))] : List Bool).all id) (by kernel_rfl) (all_c hc rfl)) (by kernel_rfl)) ?_
    refine gp_step (p := true) (b := (if (decide (p0 = (-1))) = true then (decide (p1 = (-9223372036854775808))) else false)) (v' := (.d (.b (if (decide (p1 = (-1))) = true then (decide (p0 = (-9223372036854775808))) else false)))) (by kernel_rfl) rfl rfl (fun hc => vop_pick (b := (decide (p1 = (-1)))) (p := ((true && ((if (decide (p0 = (-1))) = true then (decide (p1 = (-9223372036854775808))) else false) == false)) && ((decide (p1 = (-1))) == true))) (u := (decide (p0 = (-9223372036854775808)))) (q := true) (v := false) (Eq.trans (b := ([(true && ((if (decide (p0 = (-1))) = true then (decide (p1 = (-9223372036854775808))) else false) == false))] : List Bool).all id) (by kernel_rfl) (all_c hc rfl)) (by kernel_rfl) (by kernel_rfl) (by kernel_rfl) (fun hb => gc_t hc hb) (fun _ => rfl)) ?_
    refine p_step (v' := (.d (.b (if (if (decide (p0 = (-1))) = true then (decide (p1 = (-9223372036854775808))) else false) = true then true else (if (decide (p1 = (-1))) = true then (decide (p0 = (-9223372036854775808))) else false))))) rfl rfl (vop_pick (b := (if (decide (p0 = (-1))) = true then (decide (p1 = (-9223372036854775808))) else false)) (p := true) (u := true) (q := (true && ((if (decide (p0 = (-1))) = true then (decide (p1 = (-9223372036854775808))) else false) == false))) (v := (if (decide (p1 = (-1))) = true then (decide (p0 = (-9223372036854775808))) else false)) (by kernel_rfl) (by kernel_rfl) (by kernel_rfl) (by kernel_rfl) (fun _ => rfl) (fun hb => gc_f rfl hb)) ?_
    refine nil_in ?_
    refine next_in ?_
    refine cond_step h (by kernel_rfl) ?_ ?_
    · clear h; intro h
      refine seq_in ?_
      refine ops_in ?_
      refine sts_ok 2 (s' := ⟨[(5, (.d (.b false))), (4, (.d (.i .i64 0))), (26, (.d (.b (if (if (decide (p0 = (-1))) = true then (decide (p1 = (-9223372036854775808))) else false) = true then true else (if (decide (p1 = (-1))) = true then (decide (p0 = (-9223372036854775808))) else false))))), (25, (.ite (true && ((if (decide (p0 = (-1))) = true then (decide (p1 = (-9223372036854775808))) else false) == false)) (.d (.b (if (decide (p1 = (-1))) = true then (decide (p0 = (-9223372036854775808))) else false))))), (24, (.ite ((true && ((if (decide (p0 = (-1))) = true then (decide (p1 = (-9223372036854775808))) else false) == false)) && ((decide (p1 = (-1))) == true)) (.d (.b (decide (p0 = (-9223372036854775808))))))), (23, (.ite ((true && ((if (decide (p0 = (-1))) = true then (decide (p1 = (-9223372036854775808))) else false) == false)) && ((decide (p1 = (-1))) == true)) (.d (.i .i64 p0)))), (22, (.ite (true && ((if (decide (p0 = (-1))) = true then (decide (p1 = (-9223372036854775808))) else false) == false)) (.d (.b (decide (p1 = (-1))))))), (21, (.ite (true && ((if (decide (p0 = (-1))) = true then (decide (p1 = (-9223372036854775808))) else false) == false)) (.d (.b (decide (p1 = (-1))))))), (20, (.ite (true && ((if (decide (p0 = (-1))) = true then (decide (p1 = (-9223372036854775808))) else false) == false)) (.d (.i .i64 p1)))), (19, (.d (.b (if (decide (p0 = (-1))) = true then (decide (p1 = (-9223372036854775808))) else false)))), (18, (.d (.b (if (decide (p0 = (-1))) = true then (decide (p1 = (-9223372036854775808))) else false)))), (17, (.ite (true && ((decide (p0 = (-1))) == true)) (.d (.b (decide (p1 = (-9223372036854775808))))))), (16, (.ite (true && ((decide (p0 = (-1))) == true)) (.d (.i .i64 p1)))), (15, (.d (.b (decide (p0 = (-1)))))), (14, (.d (.b (decide (p0 = (-1)))))), (13, (.d (.i .i64 p0))), (12, (.d (.b (if (decide (p0 = 0)) = true then true else (decide (p1 = 0)))))), (11, (.ite (true && ((decide (p0 = 0)) == false)) (.d (.b (decide (p1 = 0)))))), (10, (.ite (true && ((decide (p0 = 0)) == false)) (.d (.i .i64 p1)))), (9, (.d (.b (decide (p0 = 0))))), (8, (.d (.b (decide (p0 = 0))))), (7, (.d (.i .i64 p0))), (5, (.d (.b false))), (4, (.d (.i .i64 0))), (0, (.d (.i .i64 p0))), (1, (.d (.i .i64 p1)))], []⟩) (by kernel_rfl) ?_
      refine nil_in ?_
      refine next_in ?_
      refine ret_in ?_
      refine thenK_ret ?_
      have h := Option.some.inj h; subst h
      exact retn_step (vs := [(.d (.i .i64 0)), (.d (.b false))]) (by kernel_rfl) (by kernel_rfl)
    · clear h; intro h
      refine skip_in ?_
      refine next_in ?_
      refine seq_in ?_
      refine ops_in ?_
      refine sts_ok 4 (s' := ⟨[(6, (.d (.i .i64 (IntKind.wrap .i64 (p0 * p1))))), (29, (.d (.i .i64 (IntKind.wrap .i64 (p0 * p1))))), (28, (.d (.i .i64 p1))), (27, (.d (.i .i64 p0))), (26, (.d (.b (if (if (decide (p0 = (-1))) = true then (decide (p1 = (-9223372036854775808))) else false) = true then true else (if (decide (p1 = (-1))) = true then (decide (p0 = (-9223372036854775808))) else false))))), (25, (.ite (true && ((if (decide (p0 = (-1))) = true then (decide (p1 = (-9223372036854775808))) else false) == false)) (.d (.b (if (decide (p1 = (-1))) = true then (decide (p0 = (-9223372036854775808))) else false))))), (24, (.ite ((true && ((if (decide (p0 = (-1))) = true then (decide (p1 = (-9223372036854775808))) else false) == false)) && ((decide (p1 = (-1))) == true)) (.d (.b (decide (p0 = (-9223372036854775808))))))), (23, (.ite ((true && ((if (decide (p0 = (-1))) = true then (decide (p1 = (-9223372036854775808))) else false) == false)) && ((decide (p1 = (-1))) == true)) (.d (.i .i64 p0)))), (22, (.ite (true && ((if (decide (p0 = (-1))) = true then (decide (p1 = (-9223372036854775808))) else false) == false)) (.d (.b (decide (p1 = (-1))))))), (21, (.ite (true && ((if (decide (p0 = (-1))) = true then (decide (p1 = (-9223372036854775808))) else false) == false)) (.d (.b (decide (p1 = (-1))))))), (20, (.ite (true && ((if (decide (p0 = (-1))) = true then (decide (p1 = (-9223372036854775808))) else false) == false)) (.d (.i .i64 p1)))), (19, (.d (.b (if (decide (p0 = (-1))) = true then (decide (p1 = (-9223372036854775808))) else false)))), (18, (.d (.b (if (decide (p0 = (-1))) = true then (decide (p1 = (-9223372036854775808))) else false)))), (17, (.ite (true && ((decide (p0 = (-1))) == true)) (.d (.b (decide (p1 = (-9223372036854775808))))))), (16, (.ite (true && ((decide (p0 = (-1))) == true)) (.d (.i .i64 p1)))), (15, (.d (.b (decide (p0 = (-1)))))), (14, (.d (.b (decide (p0 = (-1)))))), (13, (.d (.i .i64 p0))), (12, (.d (.b (if (decide (p0 = 0)) = true then true else (decide (p1 = 0)))))), (11, (.ite (true && ((decide (p0 = 0)) == false)) (.d (.b (decide (p1 = 0)))))), (10, (.ite (true && ((decide (p0 = 0)) == false)) (.d (.i .i64 p1)))), (9, (.d (.b (decide (p0 = 0))))), (8, (.d (.b (decide (p0 = 0))))), (7, (.d (.i .i64 p0))), (5, (.d (.b false))), (4, (.d (.i .i64 0))), (0, (.d (.i .i64 p0))), (1, (.d (.i .i64 p1)))], []⟩) (by kernel_rfl) ?_
      refine nil_in ?_
      refine next_in ?_
      refine seq_in ?_
      refine seq_in ?_
      refine ops_in ?_
      refine sts_ok 2 (s' := ⟨[(31, (.d (.i .i64 p1))), (30, (.d (.i .i64 (IntKind.wrap .i64 (p0 * p1))))), (6, (.d (.i .i64 (IntKind.wrap .i64 (p0 * p1))))), (29, (.d (.i .i64 (IntKind.wrap .i64 (p0 * p1))))), (28, (.d (.i .i64 p1))), (27, (.d (.i .i64 p0))), (26, (.d (.b (if (if (decide (p0 = (-1))) = true then (decide (p1 = (-9223372036854775808))) else false) = true then true else (if (decide (p1 = (-1))) = true then (decide (p0 = (-9223372036854775808))) else false))))), (25, (.ite (true && ((if (decide (p0 = (-1))) = true then (decide (p1 = (-9223372036854775808))) else false) == false)) (.d (.b (if (decide (p1 = (-1))) = true then (decide (p0 = (-9223372036854775808))) else false))))), (24, (.ite ((true && ((if (decide (p0 = (-1))) = true then (decide (p1 = (-9223372036854775808))) else false) == false)) && ((decide (p1 = (-1))) == true)) (.d (.b (decide (p0 = (-9223372036854775808))))))), (23, (.ite ((true && ((if (decide (p0 = (-1))) = true then (decide (p1 = (-9223372036854775808))) else false) == false)) && ((decide (p1 = (-1))) == true)) (.d (.i .i64 p0)))), (22, (.ite (true && ((if (decide (p0 = (-1))) = true then (decide (p1 = (-9223372036854775808))) else false) == false)) (.d (.b (decide (p1 = (-1))))))), (21, (.ite (true && ((if (decide (p0 = (-1))) = true then (decide (p1 = (-9223372036854775808))) else false) == false)) (.d (.b (decide (p1 = (-1))))))), (20, (.ite (true && ((if (decide (p0 = (-1))) = true then (decide (p1 = (-9223372036854775808))) else false) == false)) (.d (.i .i64 p1)))), (19, (.d (.b (if (decide (p0 = (-1))) = true then (decide (p1 = (-9223372036854775808))) else false)))), (18, (.d (.b (if (decide (p0 = (-1))) = true then (decide (p1 = (-9223372036854775808))) else false)))), (17, (.ite (true && ((decide (p0 = (-1))) == true)) (.d (.b (decide (p1 = (-9223372036854775808))))))), (16, (.ite (true && ((decide (p0 = (-1))) == true)) (.d (.i .i64 p1)))), (15, (.d (.b (decide (p0 = (-1)))))), (14, (.d (.b (decide (p0 = (-1)))))), (13, (.d (.i .i64 p0))), (12, (.d (.b (if (decide (p0 = 0)) = true then true else (decide (p1 = 0)))))), (11, (.ite (true && ((decide (p0 = 0)) == false)) (.d (.b (decide (p1 = 0)))))), (10, (.ite (true && ((decide (p0 = 0)) == false)) (.d (.i .i64 p1)))), (9, (.d (.b (decide (p0 = 0))))), (8, (.d (.b (decide (p0 = 0))))), (7, (.d (.i .i64 p0))), (5, (.d (.b false))), (4, (.d (.i .i64 0))), (0, (.d (.i .i64 p0))), (1, (.d (.i .i64 p1)))], []⟩) (by kernel_rfl) ?_
      refine v_step (m := quoG .i64 (IntKind.wrap .i64 (p0 * p1)) p1) (v' := fun y => (.d (.i .i64 y))) h rfl rfl (fun y hy => vop_quo (k := .i64) (a := (IntKind.wrap .i64 (p0 * p1))) (b := p1) hy (by kernel_rfl) (by kernel_rfl) (by kernel_rfl)) ?_
      clear h; intro y1 h
      refine sts_ok 2 (s' := ⟨[(34, (.d (.b (!decide (y1 = p0))))), (33, (.d (.i .i64 p0))), (32, (.d (.i .i64 y1))), (31, (.d (.i .i64 p1))), (30, (.d (.i .i64 (IntKind.wrap .i64 (p0 * p1))))), (6, (.d (.i .i64 (IntKind.wrap .i64 (p0 * p1))))), (29, (.d (.i .i64 (IntKind.wrap .i64 (p0 * p1))))), (28, (.d (.i .i64 p1))), (27, (.d (.i .i64 p0))), (26, (.d (.b (if (if (decide (p0 = (-1))) = true then (decide (p1 = (-9223372036854775808))) else false) = true then true else (if (decide (p1 = (-1))) = true then (decide (p0 = (-9223372036854775808))) else false))))), (25, (.ite (true && ((if (decide (p0 = (-1))) = true then (decide (p1 = (-9223372036854775808))) else false) == false)) (.d (.b (if (decide (p1 = (-1))) = true then (decide (p0 = (-9223372036854775808))) else false))))), (24, (.ite ((true && ((if (decide (p0 = (-1))) = true then (decide (p1 = (-9223372036854775808))) else false) == false)) && ((decide (p1 = (-1))) == true)) (.d (.b (decide (p0 = (-9223372036854775808))))))), (23, (.ite ((true && ((if (decide (p0 = (-1))) = true then (decide (p1 = (-9223372036854775808))) else false) == false)) && ((decide (p1 = (-1))) == true)) (.d (.i .i64 p0)))), (22, (.ite (true && ((if (decide (p0 = (-1))) = true then (decide (p1 = (-9223372036854775808))) else false) == false)) (.d (.b (decide (p1 = (-1))))))), (21, (.ite (true && ((if (decide (p0 = (-1))) = true then (decide (p1 = (-9223372036854775808))) else false) == false)) (.d (.b (decide (p1 = (-1))))))), (20, (.ite (true && ((if (decide (p0 = (-1))) = true then (decide (p1 = (-9223372036854775808))) else false) == false)) (.d (.i .i64 p1)))), (19, (.d (.b (if (decide (p0 = (-1))) = true then (decide (p1 = (-9223372036854775808))) else false)))), (18, (.d (.b (if (decide (p0 = (-1))) = true then (decide (p1 = (-9223372036854775808))) else false)))), (17, (.ite (true && ((decide (p0 = (-1))) == true)) (.d (.b (decide (p1 = (-9223372036854775808))))))), (16, (.ite (true && ((decide (p0 = (-1))) == true)) (.d (.i .i64 p1)))), (15, (.d (.b (decide (p0 = (-1)))))), (14, (.d (.b (decide (p0 = (-1)))))), (13, (.d (.i .i64 p0))), (12, (.d (.b (if (decide (p0 = 0)) = true then true else (decide (p1 = 0)))))), (11, (.ite (true && ((decide (p0 = 0)) == false)) (.d (.b (decide (p1 = 0)))))), (10, (.ite (true && ((decide (p0 = 0)) == false)) (.d (.i .i64 p1)))), (9, (.d (.b (decide (p0 = 0))))), (8, (.d (.b (decide (p0 = 0))))), (7, (.d (.i .i64 p0))), (5, (.d (.b false))), (4, (.d (.i .i64 0))), (0, (.d (.i .i64 p0))), (1, (.d (.i .i64 p1)))], []⟩) (by kernel_rfl) ?_
      refine nil_in ?_
      refine next_in ?_
      refine cond_step h (by kernel_rfl) ?_ ?_
      · clear h; intro h
        refine seq_in ?_
        refine ops_in ?_
        refine sts_ok 2 (s' := ⟨[(5, (.d (.b false))), (4, (.d (.i .i64 0))), (34, (.d (.b (!decide (y1 = p0))))), (33, (.d (.i .i64 p0))), (32, (.d (.i .i64 y1))), (31, (.d (.i .i64 p1))), (30, (.d (.i .i64 (IntKind.wrap .i64 (p0 * p1))))), (6, (.d (.i .i64 (IntKind.wrap .i64 (p0 * p1))))), (29, (.d (.i .i64 (IntKind.wrap .i64 (p0 * p1))))), (28, (.d (.i .i64 p1))), (27, (.d (.i .i64 p0))), (26, (.d (.b (if (if (decide (p0 = (-1))) = true then (decide (p1 = (-9223372036854775808))) else false) = true then true else (if (decide (p1 = (-1))) = true then (decide (p0 = (-9223372036854775808))) else false))))), (25, (.ite (true && ((if (decide (p0 = (-1))) = true then (decide (p1 = (-9223372036854775808))) else false) == false)) (.d (.b (if (decide (p1 = (-1))) = true then (decide (p0 = (-9223372036854775808))) else false))))), (24, (.ite ((true && ((if (decide (p0 = (-1))) = true then (decide (p1 = (-9223372036854775808))) else false) == false)) && ((decide (p1 = (-1))) == true)) (.d (.b (decide (p0 = (-9223372036854775808))))))), (23, (.ite ((true && ((if (decide (p0 = (-1))) = true then (decide (p1 = (-9223372036854775808))) else false) == false)) && ((decide (p1 = (-1))) == true)) (.d (.i .i64 p0)))), (22, (.ite (true && ((if (decide (p0 = (-1))) = true then (decide (p1 = (-9223372036854775808))) else false) == false)) (.d (.b (decide (p1 = (-1))))))), (21, (.ite (true && ((if (decide (p0 = (-1))) = true then (decide (p1 = (-9223372036854775808))) else false) == false)) (.d (.b (decide (p1 = (-1))))))), (20, (.ite (true && ((if (decide (p0 = (-1))) = true then (decide (p1 = (-9223372036854775808))) else false) == false)) (.d (.i .i64 p1)))), (19, (.d (.b (if (decide (p0 = (-1))) = true then (decide (p1 = (-9223372036854775808))) else false)))), (18, (.d (.b (if (decide (p0 = (-1))) = true then (decide (p1 = (-9223372036854775808))) else false)))), (17, (.ite (true && ((decide (p0 = (-1))) == true)) (.d (.b (decide (p1 = (-9223372036854775808))))))), (16, (.ite (true && ((decide (p0 = (-1))) == true)) (.d (.i .i64 p1)))), (15, (.d (.b (decide (p0 = (-1)))))), (14, (.d (.b (decide (p0 = (-1)))))), (13, (.d (.i .i64 p0))), (12, (.d (.b (if (decide (p0 = 0)) = true then true else (decide (p1 = 0)))))), (11, (.ite (true && ((decide (p0 = 0)) == false)) (.d (.b (decide (p1 = 0)))))), (10, (.ite (true && ((decide (p0 = 0)) == false)) (.d (.i .i64 p1)))), (9, (.d (.b (decide (p0 = 0))))), (8, (.d (.b (decide (p0 = 0))))), (7, (.d (.i .i64 p0))), (5, (.d (.b false))), (4, (.d (.i .i64 0))), (0, (.d (.i .i64 p0))), (1, (.d (.i .i64 p1)))], []⟩) (by kernel_rfl) ?_
        refine nil_in ?_
        refine next_in ?_
        refine ret_in ?_
        refine thenK_ret ?_
        have h := Option.some.inj h; subst h
        exact retn_step (vs := [(.d (.i .i64 0)), (.d (.b false))]) (by kernel_rfl) (by kernel_rfl)
      · clear h; intro h
        refine skip_in ?_
        refine next_in ?_
        refine seq_in ?_
        refine ops_in ?_
        refine sts_ok 3 (s' := ⟨[(5, (.d (.b true))), (4, (.d (.i .i64 (IntKind.wrap .i64 (p0 * p1))))), (35, (.d (.i .i64 (IntKind.wrap .i64 (p0 * p1))))), (34, (.d (.b (!decide (y1 = p0))))), (33, (.d (.i .i64 p0))), (32, (.d (.i .i64 y1))), (31, (.d (.i .i64 p1))), (30, (.d (.i .i64 (IntKind.wrap .i64 (p0 * p1))))), (6, (.d (.i .i64 (IntKind.wrap .i64 (p0 * p1))))), (29, (.d (.i .i64 (IntKind.wrap .i64 (p0 * p1))))), (28, (.d (.i .i64 p1))), (27, (.d (.i .i64 p0))), (26, (.d (.b (if (if (decide (p0 = (-1))) = true then (decide (p1 = (-9223372036854775808))) else false) = true then true else (if (decide (p1 = (-1))) = true then (decide (p0 = (-9223372036854775808))) else false))))), (25, (.ite (true && ((if (decide (p0 = (-1))) = true then (decide (p1 = (-9223372036854775808))) else false) == false)) (.d (.b (if (decide (p1 = (-1))) = true then (decide (p0 = (-9223372036854775808))) else false))))), (24, (.ite ((true && ((if (decide (p0 = (-1))) = true then (decide (p1 = (-9223372036854775808))) else false) == false)) && ((decide (p1 = (-1))) == true)) (.d (.b (decide (p0 = (-9223372036854775808))))))), (23, (.ite ((true && ((if (decide (p0 = (-1))) = true then (decide (p1 = (-9223372036854775808))) else false) == false)) && ((decide (p1 = (-1))) == true)) (.d (.i .i64 p0)))), (22, (.ite (true && ((if (decide (p0 = (-1))) = true then (decide (p1 = (-9223372036854775808))) else false) == false)) (.d (.b (decide (p1 = (-1))))))), (21, (.ite (true && ((if (decide (p0 = (-1))) = true then (decide (p1 = (-9223372036854775808))) else false) == false)) (.d (.b (decide (p1 = (-1))))))), (20, (.ite (true && ((if (decide (p0 = (-1))) = true then (decide (p1 = (-9223372036854775808))) else false) == false)) (.d (.i .i64 p1)))), (19, (.d (.b (if (decide (p0 = (-1))) = true then (decide (p1 = (-9223372036854775808))) else false)))), (18, (.d (.b (if (decide (p0 = (-1))) = true then (decide (p1 = (-9223372036854775808))) else false)))), (17, (.ite (true && ((decide (p0 = (-1))) == true)) (.d (.b (decide (p1 = (-9223372036854775808))))))), (16, (.ite (true && ((decide (p0 = (-1))) == true)) (.d (.i .i64 p1)))), (15, (.d (.b (decide (p0 = (-1)))))), (14, (.d (.b (decide (p0 = (-1)))))), (13, (.d (.i .i64 p0))), (12, (.d (.b (if (decide (p0 = 0)) = true then true else (decide (p1 = 0)))))), (11, (.ite (true && ((decide (p0 = 0)) == false)) (.d (.b (decide (p1 = 0)))))), (10, (.ite (true && ((decide (p0 = 0)) == false)) (.d (.i .i64 p1)))), (9, (.d (.b (decide (p0 = 0))))), (8, (.d (.b (decide (p0 = 0))))), (7, (.d (.i .i64 p0))), (5, (.d (.b false))), (4, (.d (.i .i64 0))), (0, (.d (.i .i64 p0))), (1, (.d (.i .i64 p1)))], []⟩) (by kernel_rfl) ?_
        refine nil_in ?_
        refine next_in ?_
        refine ret_in ?_
        have h := Option.some.inj h; subst h
        exact retn_step (vs := [(.d (.i .i64 (IntKind.wrap .i64 (p0 * p1)))), (.d (.b true))]) (by kernel_rfl) (by kernel_rfl)
theorem OK_sTextValue (p0 : (List UInt8)) : FOk Try.prog 126 [(.d (.s (bs p0)))] (fun y => (vGValue y)) (sTextValue p0) := by
  intro r h
  rw [sTextValue] at h
  refine acalls_of_fn trsTextValue (Nat.le_of_ble_eq_true rfl) (by simp) ?_
  show avc Try.prog acsTextValue (qsTextValue _) ⟨[(0, (.d (.s (bs p0))))], []⟩
  delta acsTextValue
  refine seq_in ?_
  refine ops_in ?_
  refine sts_ok 1 (s' := ⟨[(2, (.ptr 2 0)), (0, (.d (.s (bs p0))))], [(2, [(.d (.i .i64 0)), (.d (.i .i64 0)), (.d (.s (bs [])))])]⟩) (by kernel_rfl) ?_
  refine nil_in ?_
  refine next_in ?_
  refine seq_in ?_
  refine ops_in ?_
  refine sts_ok 3 (s' := ⟨[(4, (vGValue (GValue.mk 2 0 p0))), (3, (.d (.s (bs p0)))), (2, (.ptr 2 0)), (0, (.d (.s (bs p0))))], [(2, [(.d (.i .i64 2)), (.d (.i .i64 0)), (.d (.s (bs p0)))])]⟩) (by kernel_rfl) ?_
  refine nil_in ?_
  refine next_in ?_
  refine ret_in ?_
  have h := Option.some.inj h; subst h
  exact ret1_step (v := (vGValue (GValue.mk 2 0 p0))) (by kernel_rfl) (by kernel_rfl) (by kernel_rfl)
theorem OK_sValueOk (p0 : GValue) : FOk Try.prog 122 [(vGValue p0)] (fun y => (.d (.b y))) (sValueOk p0) := by
  intro r h
  rw [sValueOk] at h
  refine acalls_of_fn trsValueOk (Nat.le_of_ble_eq_true rfl) (by simp) ?_
  show avc Try.prog acsValueOk (qsValueOk _) ⟨[(0, (vGValue p0))], []⟩
  delta acsValueOk
  refine seq_in ?_
  refine ops_in ?_
  refine sts_ok 2 (s' := ⟨[(2, (.d (.b false))), (1, (.ptr 1 0)), (0, (vGValue p0))], [(1, [(.d (.i .i64 p0.kind)), (.d (.i .i64 p0.num)), (.d (.s (bs p0.text)))])]⟩) (by kernel_rfl) ?_
  refine nil_in ?_
  refine next_in ?_
  refine seq_in ?_
  refine seq_in ?_
  refine ops_in ?_
  refine sts_ok 2 (s' := ⟨[(4, (.d (.i .i64 p0.kind))), (3, (.ptr 1 0)), (2, (.d (.b false))), (1, (.ptr 1 0)), (0, (vGValue p0))], [(1, [(.d (.i .i64 p0.kind)), (.d (.i .i64 p0.num)), (.d (.s (bs p0.text)))])]⟩) (by kernel_rfl) ?_
  refine nil_in ?_
  refine next_in ?_
  refine block_in ?_
  refine seq_in ?_
  refine ops_in ?_
  refine sts_ok 2 (s' := ⟨[(5, (.d (.b (decide (p0.kind = 0))))), (6, (.d (.b (decide (p0.kind = 0))))), (4, (.d (.i .i64 p0.kind))), (3, (.ptr 1 0)), (2, (.d (.b false))), (1, (.ptr 1 0)), (0, (vGValue p0))], [(1, [(.d (.i .i64 p0.kind)), (.d (.i .i64 p0.num)), (.d (.s (bs p0.text)))])]⟩) (by kernel_rfl) ?_
  refine nil_in ?_
  refine next_in ?_
  refine cond_step h (by kernel_rfl) ?_ ?_
  · clear h; intro h
    refine seq_in ?_
    refine ops_in ?_
    refine sts_ok 4 (s' := ⟨[(10, (.d (.b (decide (p0.num = 0))))), (9, (.d (.b (decide (p0.num = 0))))), (8, (.d (.i .i64 p0.num))), (7, (.ptr 1 1)), (5, (.d (.b (decide (p0.kind = 0))))), (6, (.d (.b (decide (p0.kind = 0))))), (4, (.d (.i .i64 p0.kind))), (3, (.ptr 1 0)), (2, (.d (.b false))), (1, (.ptr 1 0)), (0, (vGValue p0))], [(1, [(.d (.i .i64 p0.kind)), (.d (.i .i64 p0.num)), (.d (.s (bs p0.text)))])]⟩) (by kernel_rfl) ?_
    refine gp_step (p := true) (b := (decide (p0.num = 0))) (v' := (.ptr 1 2)) (by kernel_rfl) rfl rfl (fun hc => vop_val1 (by kernel_rfl) (by kernel_rfl)) ?_
    refine gp_step (p := true) (b := (decide (p0.num = 0))) (v' := (.d (.s (bs p0.text)))) (by kernel_rfl) rfl rfl (fun hc => vop_val1 (Eq.trans (b := ([(true && ((decide (p0.num = 0)) == true))] : List Bool).all id) (by kernel_rfl) (all_c hc rfl)) (by kernel_rfl)) ?_
    refine gp_step (p := true) (b := (decide (p0.num = 0))) (v' := (.d (.b (decide (p0.text = []))))) (by kernel_rfl) rfl rfl (fun hc => vop_val1 (Eq.trans (b := ([(true && ((decide (p0.num = 0)) == true))] : List Bool).all id) (by kernel_rfl) (all_c hc rfl)) (by kernel_rfl)) ?_
    refine p_step (v' := (.d (.b (if (decide (p0.num = 0)) = true then (decide (p0.text = [])) else false)))) rfl rfl (vop_pick (b := (decide (p0.num = 0))) (p := (true && ((decide (p0.num = 0)) == true))) (u := (decide (p0.text = []))) (q := true) (v := false) (by kernel_rfl) (by kernel_rfl) (by kernel_rfl) (by kernel_rfl) (fun hb => gc_t rfl hb) (fun _ => rfl)) ?_
    refine sts_ok 1 (s' := ⟨[(2, (.d (.b (if (decide (p0.num = 0)) = true then (decide (p0.text = [])) else false)))), (14, (.d (.b (if (decide (p0.num = 0)) = true then (decide (p0.text = [])) else false)))), (13, (.ite (true && ((decide (p0.num = 0)) == true)) (.d (.b (decide (p0.text = [])))))), (12, (.ite (true && ((decide (p0.num = 0)) == true)) (.d (.s (bs p0.text))))), (11, (.ite (true && ((decide (p0.num = 0)) == true)) (.ptr 1 2))), (10, (.d (.b (decide (p0.num = 0))))), (9, (.d (.b (decide (p0.num = 0))))), (8, (.d (.i .i64 p0.num))), (7, (.ptr 1 1)), (5, (.d (.b (decide (p0.kind = 0))))), (6, (.d (.b (decide (p0.kind = 0))))), (4, (.d (.i .i64 p0.kind))), (3, (.ptr 1 0)), (2, (.d (.b false))), (1, (.ptr 1 0)), (0, (vGValue p0))], [(1, [(.d (.i .i64 p0.kind)), (.d (.i .i64 p0.num)), (.d (.s (bs p0.text)))])]⟩) (by kernel_rfl) ?_
    refine nil_in ?_
    refine next_in ?_
    refine ret_in ?_
    refine blockK_ret ?_
    refine thenK_ret ?_
    have h := Option.some.inj h; subst h
    exact ret1_step (v := (.d (.b (if (decide (p0.num = 0)) = true then (decide (p0.text = [])) else false)))) (by kernel_rfl) (by kernel_rfl) (by kernel_rfl)
  · clear h; intro h
    refine seq_in ?_
    refine ops_in ?_
    refine sts_ok 2 (s' := ⟨[(15, (.d (.b (decide (p0.kind = 1))))), (16, (.d (.b (decide (p0.kind = 1))))), (5, (.d (.b (decide (p0.kind = 0))))), (6, (.d (.b (decide (p0.kind = 0))))), (4, (.d (.i .i64 p0.kind))), (3, (.ptr 1 0)), (2, (.d (.b false))), (1, (.ptr 1 0)), (0, (vGValue p0))], [(1, [(.d (.i .i64 p0.kind)), (.d (.i .i64 p0.num)), (.d (.s (bs p0.text)))])]⟩) (by kernel_rfl) ?_
    refine nil_in ?_
    refine next_in ?_
    refine cond_step h (by kernel_rfl) ?_ ?_
    · clear h; intro h
      refine seq_in ?_
      refine ops_in ?_
      refine sts_ok 4 (s' := ⟨[(2, (.d (.b (decide (p0.text = []))))), (19, (.d (.b (decide (p0.text = []))))), (18, (.d (.s (bs p0.text)))), (17, (.ptr 1 2)), (15, (.d (.b (decide (p0.kind = 1))))), (16, (.d (.b (decide (p0.kind = 1))))), (5, (.d (.b (decide (p0.kind = 0))))), (6, (.d (.b (decide (p0.kind = 0))))), (4, (.d (.i .i64 p0.kind))), (3, (.ptr 1 0)), (2, (.d (.b false))), (1, (.ptr 1 0)), (0, (vGValue p0))], [(1, [(.d (.i .i64 p0.kind)), (.d (.i .i64 p0.num)), (.d (.s (bs p0.text)))])]⟩) (by kernel_rfl) ?_
      refine nil_in ?_
      refine next_in ?_
      refine ret_in ?_
      refine blockK_ret ?_
      refine thenK_ret ?_
      have h := Option.some.inj h; subst h
      exact ret1_step (v := (.d (.b (decide (p0.text = []))))) (by kernel_rfl) (by kernel_rfl) (by kernel_rfl)
    · clear h; intro h
      refine seq_in ?_
      refine ops_in ?_
      refine sts_ok 2 (s' := ⟨[(20, (.d (.b (decide (p0.kind = 2))))), (21, (.d (.b (decide (p0.kind = 2))))), (15, (.d (.b (decide (p0.kind = 1))))), (16, (.d (.b (decide (p0.kind = 1))))), (5, (.d (.b (decide (p0.kind = 0))))), (6, (.d (.b (decide (p0.kind = 0))))), (4, (.d (.i .i64 p0.kind))), (3, (.ptr 1 0)), (2, (.d (.b false))), (1, (.ptr 1 0)), (0, (vGValue p0))], [(1, [(.d (.i .i64 p0.kind)), (.d (.i .i64 p0.num)), (.d (.s (bs p0.text)))])]⟩) (by kernel_rfl) ?_
      refine nil_in ?_
      refine next_in ?_
      refine cond_step h (by kernel_rfl) ?_ ?_
      · clear h; intro h
        refine seq_in ?_
        refine ops_in ?_
        refine sts_ok 4 (s' := ⟨[(25, (.d (.b (decide (p0.num = 0))))), (24, (.d (.b (decide (p0.num = 0))))), (23, (.d (.i .i64 p0.num))), (22, (.ptr 1 1)), (20, (.d (.b (decide (p0.kind = 2))))), (21, (.d (.b (decide (p0.kind = 2))))), (15, (.d (.b (decide (p0.kind = 1))))), (16, (.d (.b (decide (p0.kind = 1))))), (5, (.d (.b (decide (p0.kind = 0))))), (6, (.d (.b (decide (p0.kind = 0))))), (4, (.d (.i .i64 p0.kind))), (3, (.ptr 1 0)), (2, (.d (.b false))), (1, (.ptr 1 0)), (0, (vGValue p0))], [(1, [(.d (.i .i64 p0.kind)), (.d (.i .i64 p0.num)), (.d (.s (bs p0.text)))])]⟩) (by kernel_rfl) ?_
        refine gp_step (p := true) (b := (decide (p0.num = 0))) (v' := (.ptr 1 2)) (by kernel_rfl) rfl rfl (fun hc => vop_val1 (by kernel_rfl) (by kernel_rfl)) ?_
        refine gp_step (p := true) (b := (decide (p0.num = 0))) (v' := (.d (.s (bs p0.text)))) (by kernel_rfl) rfl rfl (fun hc => vop_val1 (Eq.trans (b := ([(true && ((decide (p0.num = 0)) == true))] : List Bool).all id) (by kernel_rfl) (all_c hc rfl)) (by kernel_rfl)) ?_
        refine gp_step (p := true) (b := (decide (p0.num = 0))) (v' := (.d (.i .i64 (p0.text.length : Int)))) (by kernel_rfl) rfl rfl (fun hc => vop_val1 (Eq.trans (b := ([(true && ((decide (p0.num = 0)) == true))] : List Bool).all id) (by kernel_rfl) (all_c hc rfl)) (by kernel_rfl)) ?_
        refine gp_step (p := true) (b := (decide (p0.num = 0))) (v' := (.d (.b (decide ((p0.text.length : Int) ≤ 200))))) (by kernel_rfl) rfl rfl (fun hc => vop_val1 (Eq.trans (b := ([(true && ((decide (p0.num = 0)) == true))] : List Bool).all id) (by kernel_rfl) (all_c hc rfl)) (by kernel_rfl)) ?_
        refine p_step (v' := (.d (.b (if (decide (p0.num = 0)) = true then (decide ((p0.text.length : Int) ≤ 200)) else false)))) rfl rfl (vop_pick (b := (decide (p0.num = 0))) (p := (true && ((decide (p0.num = 0)) == true))) (u := (decide ((p0.text.length : Int) ≤ 200))) (q := true) (v := false) (by kernel_rfl) (by kernel_rfl) (by kernel_rfl) (by kernel_rfl) (fun hb => gc_t rfl hb) (fun _ => rfl)) ?_
        refine sts_ok 1 (s' := ⟨[(2, (.d (.b (if (decide (p0.num = 0)) = true then (decide ((p0.text.length : Int) ≤ 200)) else false)))), (30, (.d (.b (if (decide (p0.num = 0)) = true then (decide ((p0.text.length : Int) ≤ 200)) else false)))), (29, (.ite (true && ((decide (p0.num = 0)) == true)) (.d (.b (decide ((p0.text.length : Int) ≤ 200)))))), (28, (.ite (true && ((decide (p0.num = 0)) == true)) (.d (.i .i64 (p0.text.length : Int))))), (27, (.ite (true && ((decide (p0.num = 0)) == true)) (.d (.s (bs p0.text))))), (26, (.ite (true && ((decide (p0.num = 0)) == true)) (.ptr 1 2))), (25, (.d (.b (decide (p0.num = 0))))), (24, (.d (.b (decide (p0.num = 0))))), (23, (.d (.i .i64 p0.num))), (22, (.ptr 1 1)), (20, (.d (.b (decide (p0.kind = 2))))), (21, (.d (.b (decide (p0.kind = 2))))), (15, (.d (.b (decide (p0.kind = 1))))), (16, (.d (.b (decide (p0.kind = 1))))), (5, (.d (.b (decide (p0.kind = 0))))), (6, (.d (.b (decide (p0.kind = 0))))), (4, (.d (.i .i64 p0.kind))), (3, (.ptr 1 0)), (2, (.d (.b false))), (1, (.ptr 1 0)), (0, (vGValue p0))], [(1, [(.d (.i .i64 p0.kind)), (.d (.i .i64 p0.num)), (.d (.s (bs p0.text)))])]⟩) (by kernel_rfl) ?_
        refine nil_in ?_
        refine next_in ?_
        refine ret_in ?_
        refine blockK_ret ?_
        refine thenK_ret ?_
        have h := Option.some.inj h; subst h
        exact ret1_step (v := (.d (.b (if (decide (p0.num = 0)) = true then (decide ((p0.text.length : Int) ≤ 200)) else false)))) (by kernel_rfl) (by kernel_rfl) (by kernel_rfl)
      · clear h; intro h
        refine seq_in ?_
        refine ops_in ?_
        refine sts_ok 2 (s' := ⟨[(31, (.d (.b (decide (p0.kind = 3))))), (32, (.d (.b (decide (p0.kind = 3))))), (20, (.d (.b (decide (p0.kind = 2))))), (21, (.d (.b (decide (p0.kind = 2))))), (15, (.d (.b (decide (p0.kind = 1))))), (16, (.d (.b (decide (p0.kind = 1))))), (5, (.d (.b (decide (p0.kind = 0))))), (6, (.d (.b (decide (p0.kind = 0))))), (4, (.d (.i .i64 p0.kind))), (3, (.ptr 1 0)), (2, (.d (.b false))), (1, (.ptr 1 0)), (0, (vGValue p0))], [(1, [(.d (.i .i64 p0.kind)), (.d (.i .i64 p0.num)), (.d (.s (bs p0.text)))])]⟩) (by kernel_rfl) ?_
        refine nil_in ?_
        refine next_in ?_
        refine cond_step h (by kernel_rfl) ?_ ?_
        · clear h; intro h
          refine seq_in ?_
          refine ops_in ?_
          refine sts_ok 2 (s' := ⟨[(34, (.d (.i .i64 p0.num))), (33, (.ptr 1 1)), (31, (.d (.b (decide (p0.kind = 3))))), (32, (.d (.b (decide (p0.kind = 3))))), (20, (.d (.b (decide (p0.kind = 2))))), (21, (.d (.b (decide (p0.kind = 2))))), (15, (.d (.b (decide (p0.kind = 1))))), (16, (.d (.b (decide (p0.kind = 1))))), (5, (.d (.b (decide (p0.kind = 0))))), (6, (.d (.b (decide (p0.kind = 0))))), (4, (.d (.i .i64 p0.kind))), (3, (.ptr 1 0)), (2, (.d (.b false))), (1, (.ptr 1 0)), (0, (vGValue p0))], [(1, [(.d (.i .i64 p0.kind)), (.d (.i .i64 p0.num)), (.d (.s (bs p0.text)))])]⟩) (by kernel_rfl) ?_
          refine call_step (m := sL1In p0.num 0 1) (args := [(.d (.i .i64 p0.num)), (.d (.i .i64 0)), (.d (.i .i64 1))]) (v' := (fun y => (.d (.b y)))) h (OK_sL1In p0.num 0 1) (by kernel_rfl) (by kernel_rfl) (fun _ => rfl) ?_
          clear h; intro y1 h
          refine sts_ok 1 (s' := ⟨[(36, (.d (.b y1))), (35, (.d (.b y1))), (34, (.d (.i .i64 p0.num))), (33, (.ptr 1 1)), (31, (.d (.b (decide (p0.kind = 3))))), (32, (.d (.b (decide (p0.kind = 3))))), (20, (.d (.b (decide (p0.kind = 2))))), (21, (.d (.b (decide (p0.kind = 2))))), (15, (.d (.b (decide (p0.kind = 1))))), (16, (.d (.b (decide (p0.kind = 1))))), (5, (.d (.b (decide (p0.kind = 0))))), (6, (.d (.b (decide (p0.kind = 0))))), (4, (.d (.i .i64 p0.kind))), (3, (.ptr 1 0)), (2, (.d (.b false))), (1, (.ptr 1 0)), (0, (vGValue p0))], [(1, [(.d (.i .i64 p0.kind)), (.d (.i .i64 p0.num)), (.d (.s (bs p0.text)))])]⟩) (by kernel_rfl) ?_
          refine gp_step (p := true) (b := y1) (v' := (.ptr 1 2)) (by kernel_rfl) rfl rfl (fun hc => vop_val1 (by kernel_rfl) (by kernel_rfl)) ?_
          refine gp_step (p := true) (b := y1) (v' := (.d (.s (bs p0.text)))) (by kernel_rfl) rfl rfl (fun hc => vop_val1 (Eq.trans (b := ([(true && (y1 == true))] : List Bool).all id) (by kernel_rfl) (all_c hc rfl)) (by kernel_rfl)) ?_
          refine gp_step (p := true) (b := y1) (v' := (.d (.b (decide (p0.text = []))))) (by kernel_rfl) rfl rfl (fun hc => vop_val1 (Eq.trans (b := ([(true && (y1 == true))] : List Bool).all id) (by kernel_rfl) (all_c hc rfl)) (by kernel_rfl)) ?_
          refine p_step (v' := (.d (.b (if y1 = true then (decide (p0.text = [])) else false)))) rfl rfl (vop_pick (b := y1) (p := (true && (y1 == true))) (u := (decide (p0.text = []))) (q := true) (v := false) (by kernel_rfl) (by kernel_rfl) (by kernel_rfl) (by kernel_rfl) (fun hb => gc_t rfl hb) (fun _ => rfl)) ?_
          refine sts_ok 1 (s' := ⟨[(2, (.d (.b (if y1 = true then (decide (p0.text = [])) else false)))), (40, (.d (.b (if y1 = true then (decide (p0.text = [])) else false)))), (39, (.ite (true && (y1 == true)) (.d (.b (decide (p0.text = [])))))), (38, (.ite (true && (y1 == true)) (.d (.s (bs p0.text))))), (37, (.ite (true && (y1 == true)) (.ptr 1 2))), (36, (.d (.b y1))), (35, (.d (.b y1))), (34, (.d (.i .i64 p0.num))), (33, (.ptr 1 1)), (31, (.d (.b (decide (p0.kind = 3))))), (32, (.d (.b (decide (p0.kind = 3))))), (20, (.d (.b (decide (p0.kind = 2))))), (21, (.d (.b (decide (p0.kind = 2))))), (15, (.d (.b (decide (p0.kind = 1))))), (16, (.d (.b (decide (p0.kind = 1))))), (5, (.d (.b (decide (p0.kind = 0))))), (6, (.d (.b (decide (p0.kind = 0))))), (4, (.d (.i .i64 p0.kind))), (3, (.ptr 1 0)), (2, (.d (.b false))), (1, (.ptr 1 0)), (0, (vGValue p0))], [(1, [(.d (.i .i64 p0.kind)), (.d (.i .i64 p0.num)), (.d (.s (bs p0.text)))])]⟩) (by kernel_rfl) ?_
          refine nil_in ?_
          refine next_in ?_
          refine ret_in ?_
          refine blockK_ret ?_
          refine thenK_ret ?_
          have h := Option.some.inj h; subst h
          exact ret1_step (v := (.d (.b (if y1 = true then (decide (p0.text = [])) else false)))) (by kernel_rfl) (by kernel_rfl) (by kernel_rfl)
        · clear h; intro h
          refine skip_in ?_
          refine blockK_norm ?_
          refine next_in ?_
          refine seq_in ?_
          refine ops_in ?_
          refine sts_ok 1 (s' := ⟨[(2, (.d (.b false))), (31, (.d (.b (decide (p0.kind = 3))))), (32, (.d (.b (decide (p0.kind = 3))))), (20, (.d (.b (decide (p0.kind = 2))))), (21, (.d (.b (decide (p0.kind = 2))))), (15, (.d (.b (decide (p0.kind = 1))))), (16, (.d (.b (decide (p0.kind = 1))))), (5, (.d (.b (decide (p0.kind = 0))))), (6, (.d (.b (decide (p0.kind = 0))))), (4, (.d (.i .i64 p0.kind))), (3, (.ptr 1 0)), (2, (.d (.b false))), (1, (.ptr 1 0)), (0, (vGValue p0))], [(1, [(.d (.i .i64 p0.kind)), (.d (.i .i64 p0.num)), (.d (.s (bs p0.text)))])]⟩) (by kernel_rfl) ?_
          refine nil_in ?_
          refine next_in ?_
          refine ret_in ?_
          have h := Option.some.inj h; subst h
          exact ret1_step (v := (.d (.b false))) (by kernel_rfl) (by kernel_rfl) (by kernel_rfl)
theorem OK_sCalc (p0 : Int) (p1 : GValue) (p2 : GValue) : FOk Try.prog 66 [(.d (.i .i64 p0)), (vGValue p1), (vGValue p2)] (fun y => (.tup [(vGValue y.1), (.d (.i .i64 y.2))])) (sCalc p0 p1 p2) := by
  intro r h
  rw [sCalc] at h
  refine acalls_of_fn trsCalc (Nat.le_of_ble_eq_true rfl) (by simp) ?_
  show avc Try.prog acsCalc (qsCalc _) ⟨[(0, (.d (.i .i64 p0))), (1, (vGValue p1)), (2, (vGValue p2))], []⟩
  delta acsCalc
  refine seq_in ?_
  refine ops_in ?_
  refine sts_ok 4 (s' := ⟨[(7, (.d (.i .i64 0))), (6, (.ptr 6 0)), (5, (.ptr 5 0)), (4, (.ptr 4 0)), (0, (.d (.i .i64 p0))), (1, (vGValue p1)), (2, (vGValue p2))], [(6, [(.d (.i .i64 0)), (.d (.i .i64 0)), (.d (.s (bs [])))]), (5, [(.d (.i .i64 p2.kind)), (.d (.i .i64 p2.num)), (.d (.s (bs p2.text)))]), (4, [(.d (.i .i64 p1.kind)), (.d (.i .i64 p1.num)), (.d (.s (bs p1.text)))])]⟩) (by kernel_rfl) ?_
  refine nil_in ?_
  refine next_in ?_
  refine seq_in ?_
  refine seq_in ?_
  refine ops_in ?_
  refine sts_ok 1 (s' := ⟨[(14, (.d (.i .i64 p0))), (7, (.d (.i .i64 0))), (6, (.ptr 6 0)), (5, (.ptr 5 0)), (4, (.ptr 4 0)), (0, (.d (.i .i64 p0))), (1, (vGValue p1)), (2, (vGValue p2))], [(6, [(.d (.i .i64 0)), (.d (.i .i64 0)), (.d (.s (bs [])))]), (5, [(.d (.i .i64 p2.kind)), (.d (.i .i64 p2.num)), (.d (.s (bs p2.text)))]), (4, [(.d (.i .i64 p1.kind)), (.d (.i .i64 p1.num)), (.d (.s (bs p1.text)))])]⟩) (by kernel_rfl) ?_
  refine call_step (m := sL1In p0 1 14) (args := [(.d (.i .i64 p0)), (.d (.i .i64 1)), (.d (.i .i64 14))]) (v' := (fun y => (.d (.b y)))) h (OK_sL1In p0 1 14) (by kernel_rfl) (by kernel_rfl) (fun _ => rfl) ?_
  clear h; intro y1 h
  refine sts_ok 2 (s' := ⟨[(17, (.d (.b (!y1)))), (16, (.d (.b (!y1)))), (15, (.d (.b y1))), (14, (.d (.i .i64 p0))), (7, (.d (.i .i64 0))), (6, (.ptr 6 0)), (5, (.ptr 5 0)), (4, (.ptr 4 0)), (0, (.d (.i .i64 p0))), (1, (vGValue p1)), (2, (vGValue p2))], [(6, [(.d (.i .i64 0)), (.d (.i .i64 0)), (.d (.s (bs [])))]), (5, [(.d (.i .i64 p2.kind)), (.d (.i .i64 p2.num)), (.d (.s (bs p2.text)))]), (4, [(.d (.i .i64 p1.kind)), (.d (.i .i64 p1.num)), (.d (.s (bs p1.text)))])]⟩) (by kernel_rfl) ?_
  refine gp_step (p := true) (b := (!y1)) (v' := (vGValue p1)) (by kernel_rfl) rfl rfl (fun hc => vop_val1 (by kernel_rfl) (by kernel_rfl)) ?_
  refine gcall_step (p := true) (b := (!y1)) (m := sValueOk p1) (dflt := default) (args := [(vGValue p1)]) (v' := (fun y => (.d (.b y)))) h (by kernel_rfl) (OK_sValueOk p1) (fun hc => by kernel_rfl) (by kernel_rfl) (fun _ => rfl) (fun hc => (Eq.trans (b := ([(true && ((!y1) == false))] : List Bool).all id) (by kernel_rfl) (all_c hc rfl))) ?_
  clear h; intro y2 h
  refine gp_step (p := true) (b := (!y1)) (v' := (.d (.b (!y2)))) (by kernel_rfl) rfl rfl (fun hc => vop_val1 (Eq.trans (b := ([(true && ((!y1) == false))] : List Bool).all id) (by kernel_rfl) (all_c hc rfl)) (by kernel_rfl)) ?_
  refine p_step (v' := (.d (.b (if (!y1) = true then true else (!y2))))) rfl rfl (vop_pick (b := (!y1)) (p := true) (u := true) (q := (true && ((!y1) == false))) (v := (!y2)) (by kernel_rfl) (by kernel_rfl) (by kernel_rfl) (by kernel_rfl) (fun _ => rfl) (fun hb => gc_f rfl hb)) ?_
  refine sts_ok 1 (s' := ⟨[(22, (.d (.b (if (!y1) = true then true else (!y2))))), (21, (.d (.b (if (!y1) = true then true else (!y2))))), (20, (.ite (true && ((!y1) == false)) (.d (.b (!y2))))), (19, (.ite (true && ((!y1) == false)) (.d (.b y2)))), (18, (.ite (true && ((!y1) == false)) (vGValue p1))), (17, (.d (.b (!y1)))), (16, (.d (.b (!y1)))), (15, (.d (.b y1))), (14, (.d (.i .i64 p0))), (7, (.d (.i .i64 0))), (6, (.ptr 6 0)), (5, (.ptr 5 0)), (4, (.ptr 4 0)), (0, (.d (.i .i64 p0))), (1, (vGValue p1)), (2, (vGValue p2))], [(6, [(.d (.i .i64 0)), (.d (.i .i64 0)), (.d (.s (bs [])))]), (5, [(.d (.i .i64 p2.kind)), (.d (.i .i64 p2.num)), (.d (.s (bs p2.text)))]), (4, [(.d (.i .i64 p1.kind)), (.d (.i .i64 p1.num)), (.d (.s (bs p1.text)))])]⟩) (by kernel_rfl) ?_
  refine gp_step (p := true) (b := (if (!y1) = true then true else (!y2))) (v' := (vGValue p2)) (by kernel_rfl) rfl rfl (fun hc => vop_val1 (by kernel_rfl) (by kernel_rfl)) ?_
  refine gcall_step (p := true) (b := (if (!y1) = true then true else (!y2))) (m := sValueOk p2) (dflt := default) (args := [(vGValue p2)]) (v' := (fun y => (.d (.b y)))) h (by kernel_rfl) (OK_sValueOk p2) (fun hc => by kernel_rfl) (by kernel_rfl) (fun _ => rfl) (fun hc => (Eq.trans (b := ([(true && ((if (!y1) = true then true else (!y2)) == false))] : List Bool).all id) (by kernel_rfl) (all_c hc rfl))) ?_
  clear h; intro y3 h
  refine gp_step (p := true) (b := (if (!y1) = true then true else (!y2))) (v' := (.d (.b (!y3)))) (by kernel_rfl) rfl rfl (fun hc => vop_val1 (Eq.trans (b := ([(true && ((if (!y1) = true then true else (!y2)) == false))] : List Bool).all id) (by kernel_rfl) (all_c hc rfl)) (by kernel_rfl)) ?_
  refine p_step (v' := (.d (.b (if (if (!y1) = true then true else (!y2)) = true then true else (!y3))))) rfl rfl (vop_pick (b := (if (!y1) = true then true else (!y2))) (p := true) (u := true) (q := (true && ((if (!y1) = true then true else (!y2)) == false))) (v := (!y3)) (by kernel_rfl) (by kernel_rfl) (by kernel_rfl) (by kernel_rfl) (fun _ => rfl) (fun hb => gc_f rfl hb)) ?_
  refine nil_in ?_
  refine next_in ?_
  refine cond_step h (by kernel_rfl) ?_ ?_
  · clear h; intro h
    refine seq_in ?_
    refine ops_in ?_
    refine sts_ok 3 (s' := ⟨[(7, (.d (.i .i64 1))), (27, (vGValue (GValue.mk 0 0 []))), (26, (.d (.b (if (if (!y1) = true then true else (!y2)) = true then true else (!y3))))), (25, (.ite (true && ((if (!y1) = true then true else (!y2)) == false)) (.d (.b (!y3))))), (24, (.ite (true && ((if (!y1) = true then true else (!y2)) == false)) (.d (.b y3)))), (23, (.ite (true && ((if (!y1) = true then true else (!y2)) == false)) (vGValue p2))), (22, (.d (.b (if (!y1) = true then true else (!y2))))), (21, (.d (.b (if (!y1) = true then true else (!y2))))), (20, (.ite (true && ((!y1) == false)) (.d (.b (!y2))))), (19, (.ite (true && ((!y1) == false)) (.d (.b y2)))), (18, (.ite (true && ((!y1) == false)) (vGValue p1))), (17, (.d (.b (!y1)))), (16, (.d (.b (!y1)))), (15, (.d (.b y1))), (14, (.d (.i .i64 p0))), (7, (.d (.i .i64 0))), (6, (.ptr 6 0)), (5, (.ptr 5 0)), (4, (.ptr 4 0)), (0, (.d (.i .i64 p0))), (1, (vGValue p1)), (2, (vGValue p2))], [(6, [(.d (.i .i64 0)), (.d (.i .i64 0)), (.d (.s (bs [])))]), (5, [(.d (.i .i64 p2.kind)), (.d (.i .i64 p2.num)), (.d (.s (bs p2.text)))]), (4, [(.d (.i .i64 p1.kind)), (.d (.i .i64 p1.num)), (.d (.s (bs p1.text)))])]⟩) (by kernel_rfl) ?_
    refine nil_in ?_
    refine next_in ?_
    refine ret_in ?_
    refine thenK_ret ?_
    have h := Option.some.inj h; subst h
    exact retn_step (vs := [(vGValue (GValue.mk 0 0 [])), (.d (.i .i64 1))]) (by kernel_rfl) (by kernel_rfl)
  · clear h; intro h
    refine skip_in ?_
    refine next_in ?_
    refine seq_in ?_
    refine seq_in ?_
    refine ops_in ?_
    refine sts_ok 2 (s' := ⟨[(29, (.d (.b (decide (p0 ≤ 2))))), (28, (.d (.i .i64 p0))), (26, (.d (.b (if (if (!y1) = true then true else (!y2)) = true then true else (!y3))))), (25, (.ite (true && ((if (!y1) = true then true else (!y2)) == false)) (.d (.b (!y3))))), (24, (.ite (true && ((if (!y1) = true then true else (!y2)) == false)) (.d (.b y3)))), (23, (.ite (true && ((if (!y1) = true then true else (!y2)) == false)) (vGValue p2))), (22, (.d (.b (if (!y1) = true then true else (!y2))))), (21, (.d (.b (if (!y1) = true then true else (!y2))))), (20, (.ite (true && ((!y1) == false)) (.d (.b (!y2))))), (19, (.ite (true && ((!y1) == false)) (.d (.b y2)))), (18, (.ite (true && ((!y1) == false)) (vGValue p1))), (17, (.d (.b (!y1)))), (16, (.d (.b (!y1)))), (15, (.d (.b y1))), (14, (.d (.i .i64 p0))), (7, (.d (.i .i64 0))), (6, (.ptr 6 0)), (5, (.ptr 5 0)), (4, (.ptr 4 0)), (0, (.d (.i .i64 p0))), (1, (vGValue p1)), (2, (vGValue p2))], [(6, [(.d (.i .i64 0)), (.d (.i .i64 0)), (.d (.s (bs [])))]), (5, [(.d (.i .i64 p2.kind)), (.d (.i .i64 p2.num)), (.d (.s (bs p2.text)))]), (4, [(.d (.i .i64 p1.kind)), (.d (.i .i64 p1.num)), (.d (.s (bs p1.text)))])]⟩) (by kernel_rfl) ?_
    refine nil_in ?_
    refine next_in ?_
    refine cond_step h (by kernel_rfl) ?_ ?_
    · clear h; intro h
      refine seq_in ?_
      refine ops_in ?_
      refine sts_ok 3 (s' := ⟨[(32, (vGValue p2)), (31, (vGValue p1)), (30, (.d (.i .i64 p0))), (29, (.d (.b (decide (p0 ≤ 2))))), (28, (.d (.i .i64 p0))), (26, (.d (.b (if (if (!y1) = true then true else (!y2)) = true then true else (!y3))))), (25, (.ite (true && ((if (!y1) = true then true else (!y2)) == false)) (.d (.b (!y3))))), (24, (.ite (true && ((if (!y1) = true then true else (!y2)) == false)) (.d (.b y3)))), (23, (.ite (true && ((if (!y1) = true then true else (!y2)) == false)) (vGValue p2))), (22, (.d (.b (if (!y1) = true then true else (!y2))))), (21, (.d (.b (if (!y1) = true then true else (!y2))))), (20, (.ite (true && ((!y1) == false)) (.d (.b (!y2))))), (19, (.ite (true && ((!y1) == false)) (.d (.b y2)))), (18, (.ite (true && ((!y1) == false)) (vGValue p1))), (17, (.d (.b (!y1)))), (16, (.d (.b (!y1)))), (15, (.d (.b y1))), (14, (.d (.i .i64 p0))), (7, (.d (.i .i64 0))), (6, (.ptr 6 0)), (5, (.ptr 5 0)), (4, (.ptr 4 0)), (0, (.d (.i .i64 p0))), (1, (vGValue p1)), (2, (vGValue p2))], [(6, [(.d (.i .i64 0)), (.d (.i .i64 0)), (.d (.s (bs [])))]), (5, [(.d (.i .i64 p2.kind)), (.d (.i .i64 p2.num)), (.d (.s (bs p2.text)))]), (4, [(.d (.i .i64 p1.kind)), (.d (.i .i64 p1.num)), (.d (.s (bs p1.text)))])]⟩) (by kernel_rfl) ?_
      refine call_step (m := sL6Logic p0 p1 p2) (args := [(.d (.i .i64 p0)), (vGValue p1), (vGValue p2)]) (v' := (fun y => (.tup [(vGValue y.1), (.d (.i .i64 y.2))]))) h (OK_sL6Logic p0 p1 p2) (by kernel_rfl) (by kernel_rfl) (fun _ => rfl) ?_
      clear h; intro y4 h
      refine sts_ok 4 (s' := ⟨[(7, (.d (.i .i64 y4.2))), (35, (.d (.i .i64 y4.2))), (34, (vGValue y4.1)), (33, (.tup [(vGValue y4.1), (.d (.i .i64 y4.2))])), (32, (vGValue p2)), (31, (vGValue p1)), (30, (.d (.i .i64 p0))), (29, (.d (.b (decide (p0 ≤ 2))))), (28, (.d (.i .i64 p0))), (26, (.d (.b (if (if (!y1) = true then true else (!y2)) = true then true else (!y3))))), (25, (.ite (true && ((if (!y1) = true then true else (!y2)) == false)) (.d (.b (!y3))))), (24, (.ite (true && ((if (!y1) = true then true else (!y2)) == false)) (.d (.b y3)))), (23, (.ite (true && ((if (!y1) = true then true else (!y2)) == false)) (vGValue p2))), (22, (.d (.b (if (!y1) = true then true else (!y2))))), (21, (.d (.b (if (!y1) = true then true else (!y2))))), (20, (.ite (true && ((!y1) == false)) (.d (.b (!y2))))), (19, (.ite (true && ((!y1) == false)) (.d (.b y2)))), (18, (.ite (true && ((!y1) == false)) (vGValue p1))), (17, (.d (.b (!y1)))), (16, (.d (.b (!y1)))), (15, (.d (.b y1))), (14, (.d (.i .i64 p0))), (7, (.d (.i .i64 0))), (6, (.ptr 6 0)), (5, (.ptr 5 0)), (4, (.ptr 4 0)), (0, (.d (.i .i64 p0))), (1, (vGValue p1)), (2, (vGValue p2))], [(6, [(.d (.i .i64 y4.1.kind)), (.d (.i .i64 y4.1.num)), (.d (.s (bs y4.1.text)))]), (5, [(.d (.i .i64 p2.kind)), (.d (.i .i64 p2.num)), (.d (.s (bs p2.text)))]), (4, [(.d (.i .i64 p1.kind)), (.d (.i .i64 p1.num)), (.d (.s (bs p1.text)))])]⟩) (by kernel_rfl) ?_
      refine nil_in ?_
      refine next_in ?_
      refine ret_in ?_
      refine thenK_ret ?_
      have h := Option.some.inj h; subst h
      exact retn_step (vs := [(vGValue y4.1), (.d (.i .i64 y4.2))]) (by kernel_rfl) (by kernel_rfl)
    · clear h; intro h
      refine skip_in ?_
      refine next_in ?_
      refine seq_in ?_
      refine seq_in ?_
      refine ops_in ?_
      refine sts_ok 3 (s' := ⟨[(38, (vGValue p2)), (37, (vGValue p1)), (36, (.d (.i .i64 p0))), (29, (.d (.b (decide (p0 ≤ 2))))), (28, (.d (.i .i64 p0))), (26, (.d (.b (if (if (!y1) = true then true else (!y2)) = true then true else (!y3))))), (25, (.ite (true && ((if (!y1) = true then true else (!y2)) == false)) (.d (.b (!y3))))), (24, (.ite (true && ((if (!y1) = true then true else (!y2)) == false)) (.d (.b y3)))), (23, (.ite (true && ((if (!y1) = true then true else (!y2)) == false)) (vGValue p2))), (22, (.d (.b (if (!y1) = true then true else (!y2))))), (21, (.d (.b (if (!y1) = true then true else (!y2))))), (20, (.ite (true && ((!y1) == false)) (.d (.b (!y2))))), (19, (.ite (true && ((!y1) == false)) (.d (.b y2)))), (18, (.ite (true && ((!y1) == false)) (vGValue p1))), (17, (.d (.b (!y1)))), (16, (.d (.b (!y1)))), (15, (.d (.b y1))), (14, (.d (.i .i64 p0))), (7, (.d (.i .i64 0))), (6, (.ptr 6 0)), (5, (.ptr 5 0)), (4, (.ptr 4 0)), (0, (.d (.i .i64 p0))), (1, (vGValue p1)), (2, (vGValue p2))], [(6, [(.d (.i .i64 0)), (.d (.i .i64 0)), (.d (.s (bs [])))]), (5, [(.d (.i .i64 p2.kind)), (.d (.i .i64 p2.num)), (.d (.s (bs p2.text)))]), (4, [(.d (.i .i64 p1.kind)), (.d (.i .i64 p1.num)), (.d (.s (bs p1.text)))])]⟩) (by kernel_rfl) ?_
      refine call_step (m := sL6Types p0 p1 p2) (args := [(.d (.i .i64 p0)), (vGValue p1), (vGValue p2)]) (v' := (fun y => (.d (.b y)))) h (OK_sL6Types p0 p1 p2) (by kernel_rfl) (by kernel_rfl) (fun _ => rfl) ?_
      clear h; intro y5 h
      refine sts_ok 1 (s' := ⟨[(40, (.d (.b (!y5)))), (39, (.d (.b y5))), (38, (vGValue p2)), (37, (vGValue p1)), (36, (.d (.i .i64 p0))), (29, (.d (.b (decide (p0 ≤ 2))))), (28, (.d (.i .i64 p0))), (26, (.d (.b (if (if (!y1) = true then true else (!y2)) = true then true else (!y3))))), (25, (.ite (true && ((if (!y1) = true then true else (!y2)) == false)) (.d (.b (!y3))))), (24, (.ite (true && ((if (!y1) = true then true else (!y2)) == false)) (.d (.b y3)))), (23, (.ite (true && ((if (!y1) = true then true else (!y2)) == false)) (vGValue p2))), (22, (.d (.b (if (!y1) = true then true else (!y2))))), (21, (.d (.b (if (!y1) = true then true else (!y2))))), (20, (.ite (true && ((!y1) == false)) (.d (.b (!y2))))), (19, (.ite (true && ((!y1) == false)) (.d (.b y2)))), (18, (.ite (true && ((!y1) == false)) (vGValue p1))), (17, (.d (.b (!y1)))), (16, (.d (.b (!y1)))), (15, (.d (.b y1))), (14, (.d (.i .i64 p0))), (7, (.d (.i .i64 0))), (6, (.ptr 6 0)), (5, (.ptr 5 0)), (4, (.ptr 4 0)), (0, (.d (.i .i64 p0))), (1, (vGValue p1)), (2, (vGValue p2))], [(6, [(.d (.i .i64 0)), (.d (.i .i64 0)), (.d (.s (bs [])))]), (5, [(.d (.i .i64 p2.kind)), (.d (.i .i64 p2.num)), (.d (.s (bs p2.text)))]), (4, [(.d (.i .i64 p1.kind)), (.d (.i .i64 p1.num)), (.d (.s (bs p1.text)))])]⟩) (by kernel_rfl) ?_
      refine nil_in ?_
      refine next_in ?_
      refine cond_step h (by kernel_rfl) ?_ ?_
      · clear h; intro h
        refine seq_in ?_
        refine ops_in ?_
        refine sts_ok 3 (s' := ⟨[(7, (.d (.i .i64 1))), (41, (vGValue (GValue.mk 0 0 []))), (40, (.d (.b (!y5)))), (39, (.d (.b y5))), (38, (vGValue p2)), (37, (vGValue p1)), (36, (.d (.i .i64 p0))), (29, (.d (.b (decide (p0 ≤ 2))))), (28, (.d (.i .i64 p0))), (26, (.d (.b (if (if (!y1) = true then true else (!y2)) = true then true else (!y3))))), (25, (.ite (true && ((if (!y1) = true then true else (!y2)) == false)) (.d (.b (!y3))))), (24, (.ite (true && ((if (!y1) = true then true else (!y2)) == false)) (.d (.b y3)))), (23, (.ite (true && ((if (!y1) = true then true else (!y2)) == false)) (vGValue p2))), (22, (.d (.b (if (!y1) = true then true else (!y2))))), (21, (.d (.b (if (!y1) = true then true else (!y2))))), (20, (.ite (true && ((!y1) == false)) (.d (.b (!y2))))), (19, (.ite (true && ((!y1) == false)) (.d (.b y2)))), (18, (.ite (true && ((!y1) == false)) (vGValue p1))), (17, (.d (.b (!y1)))), (16, (.d (.b (!y1)))), (15, (.d (.b y1))), (14, (.d (.i .i64 p0))), (7, (.d (.i .i64 0))), (6, (.ptr 6 0)), (5, (.ptr 5 0)), (4, (.ptr 4 0)), (0, (.d (.i .i64 p0))), (1, (vGValue p1)), (2, (vGValue p2))], [(6, [(.d (.i .i64 0)), (.d (.i .i64 0)), (.d (.s (bs [])))]), (5, [(.d (.i .i64 p2.kind)), (.d (.i .i64 p2.num)), (.d (.s (bs p2.text)))]), (4, [(.d (.i .i64 p1.kind)), (.d (.i .i64 p1.num)), (.d (.s (bs p1.text)))])]⟩) (by kernel_rfl) ?_
        refine nil_in ?_
        refine next_in ?_
        refine ret_in ?_
        refine thenK_ret ?_
        have h := Option.some.inj h; subst h
        exact retn_step (vs := [(vGValue (GValue.mk 0 0 [])), (.d (.i .i64 1))]) (by kernel_rfl) (by kernel_rfl)
      · clear h; intro h
        refine skip_in ?_
        refine next_in ?_
        refine seq_in ?_
        refine seq_in ?_
        refine ops_in ?_
        refine sts_ok 1 (s' := ⟨[(42, (vGValue p1)), (40, (.d (.b (!y5)))), (39, (.d (.b y5))), (38, (vGValue p2)), (37, (vGValue p1)), (36, (.d (.i .i64 p0))), (29, (.d (.b (decide (p0 ≤ 2))))), (28, (.d (.i .i64 p0))), (26, (.d (.b (if (if (!y1) = true then true else (!y2)) = true then true else (!y3))))), (25, (.ite (true && ((if (!y1) = true then true else (!y2)) == false)) (.d (.b (!y3))))), (24, (.ite (true && ((if (!y1) = true then true else (!y2)) == false)) (.d (.b y3)))), (23, (.ite (true && ((if (!y1) = true then true else (!y2)) == false)) (vGValue p2))), (22, (.d (.b (if (!y1) = true then true else (!y2))))), (21, (.d (.b (if (!y1) = true then true else (!y2))))), (20, (.ite (true && ((!y1) == false)) (.d (.b (!y2))))), (19, (.ite (true && ((!y1) == false)) (.d (.b y2)))), (18, (.ite (true && ((!y1) == false)) (vGValue p1))), (17, (.d (.b (!y1)))), (16, (.d (.b (!y1)))), (15, (.d (.b y1))), (14, (.d (.i .i64 p0))), (7, (.d (.i .i64 0))), (6, (.ptr 6 0)), (5, (.ptr 5 0)), (4, (.ptr 4 0)), (0, (.d (.i .i64 p0))), (1, (vGValue p1)), (2, (vGValue p2))], [(6, [(.d (.i .i64 0)), (.d (.i .i64 0)), (.d (.s (bs [])))]), (5, [(.d (.i .i64 p2.kind)), (.d (.i .i64 p2.num)), (.d (.s (bs p2.text)))]), (4, [(.d (.i .i64 p1.kind)), (.d (.i .i64 p1.num)), (.d (.s (bs p1.text)))])]⟩) (by kernel_rfl) ?_
        refine call_step (m := sL6Null p1) (args := [(vGValue p1)]) (v' := (fun y => (.d (.b y)))) h (OK_sL6Null p1) (by kernel_rfl) (by kernel_rfl) (fun _ => rfl) ?_
        clear h; intro y6 h
        refine sts_ok 1 (s' := ⟨[(44, (.d (.b y6))), (43, (.d (.b y6))), (42, (vGValue p1)), (40, (.d (.b (!y5)))), (39, (.d (.b y5))), (38, (vGValue p2)), (37, (vGValue p1)), (36, (.d (.i .i64 p0))), (29, (.d (.b (decide (p0 ≤ 2))))), (28, (.d (.i .i64 p0))), (26, (.d (.b (if (if (!y1) = true then true else (!y2)) = true then true else (!y3))))), (25, (.ite (true && ((if (!y1) = true then true else (!y2)) == false)) (.d (.b (!y3))))), (24, (.ite (true && ((if (!y1) = true then true else (!y2)) == false)) (.d (.b y3)))), (23, (.ite (true && ((if (!y1) = true then true else (!y2)) == false)) (vGValue p2))), (22, (.d (.b (if (!y1) = true then true else (!y2))))), (21, (.d (.b (if (!y1) = true then true else (!y2))))), (20, (.ite (true && ((!y1) == false)) (.d (.b (!y2))))), (19, (.ite (true && ((!y1) == false)) (.d (.b y2)))), (18, (.ite (true && ((!y1) == false)) (vGValue p1))), (17, (.d (.b (!y1)))), (16, (.d (.b (!y1)))), (15, (.d (.b y1))), (14, (.d (.i .i64 p0))), (7, (.d (.i .i64 0))), (6, (.ptr 6 0)), (5, (.ptr 5 0)), (4, (.ptr 4 0)), (0, (.d (.i .i64 p0))), (1, (vGValue p1)), (2, (vGValue p2))], [(6, [(.d (.i .i64 0)), (.d (.i .i64 0)), (.d (.s (bs [])))]), (5, [(.d (.i .i64 p2.kind)), (.d (.i .i64 p2.num)), (.d (.s (bs p2.text)))]), (4, [(.d (.i .i64 p1.kind)), (.d (.i .i64 p1.num)), (.d (.s (bs p1.text)))])]⟩) (by kernel_rfl) ?_
        refine gp_step (p := true) (b := y6) (v' := (vGValue p2)) (by kernel_rfl) rfl rfl (fun hc => vop_val1 (by kernel_rfl) (by kernel_rfl)) ?_
        refine gcall_step (p := true) (b := y6) (m := sL6Null p2) (dflt := default) (args := [(vGValue p2)]) (v' := (fun y => (.d (.b y)))) h (by kernel_rfl) (OK_sL6Null p2) (fun hc => by kernel_rfl) (by kernel_rfl) (fun _ => rfl) (fun hc => (Eq.trans (b := ([(true && (y6 == false))] : List Bool).all id) (by kernel_rfl) (all_c hc rfl))) ?_
        clear h; intro y7 h
        refine p_step (v' := (.d (.b (if y6 = true then true else y7)))) rfl rfl (vop_pick (b := y6) (p := true) (u := true) (q := (true && (y6 == false))) (v := y7) (by kernel_rfl) (by kernel_rfl) (by kernel_rfl) (by kernel_rfl) (fun _ => rfl) (fun hb => gc_f rfl hb)) ?_
        refine nil_in ?_
        refine next_in ?_
        refine cond_step h (by kernel_rfl) ?_ ?_
        · clear h; intro h
          refine seq_in ?_
          refine ops_in ?_
          refine sts_ok 3 (s' := ⟨[(7, (.d (.i .i64 0))), (48, (vGValue (GValue.mk 0 0 []))), (47, (.d (.b (if y6 = true then true else y7)))), (46, (.ite (true && (y6 == false)) (.d (.b y7)))), (45, (.ite (true && (y6 == false)) (vGValue p2))), (44, (.d (.b y6))), (43, (.d (.b y6))), (42, (vGValue p1)), (40, (.d (.b (!y5)))), (39, (.d (.b y5))), (38, (vGValue p2)), (37, (vGValue p1)), (36, (.d (.i .i64 p0))), (29, (.d (.b (decide (p0 ≤ 2))))), (28, (.d (.i .i64 p0))), (26, (.d (.b (if (if (!y1) = true then true else (!y2)) = true then true else (!y3))))), (25, (.ite (true && ((if (!y1) = true then true else (!y2)) == false)) (.d (.b (!y3))))), (24, (.ite (true && ((if (!y1) = true then true else (!y2)) == false)) (.d (.b y3)))), (23, (.ite (true && ((if (!y1) = true then true else (!y2)) == false)) (vGValue p2))), (22, (.d (.b (if (!y1) = true then true else (!y2))))), (21, (.d (.b (if (!y1) = true then true else (!y2))))), (20, (.ite (true && ((!y1) == false)) (.d (.b (!y2))))), (19, (.ite (true && ((!y1) == false)) (.d (.b y2)))), (18, (.ite (true && ((!y1) == false)) (vGValue p1))), (17, (.d (.b (!y1)))), (16, (.d (.b (!y1)))), (15, (.d (.b y1))), (14, (.d (.i .i64 p0))), (7, (.d (.i .i64 0))), (6, (.ptr 6 0)), (5, (.ptr 5 0)), (4, (.ptr 4 0)), (0, (.d (.i .i64 p0))), (1, (vGValue p1)), (2, (vGValue p2))], [(6, [(.d (.i .i64 0)), (.d (.i .i64 0)), (.d (.s (bs [])))]), (5, [(.d (.i .i64 p2.kind)), (.d (.i .i64 p2.num)), (.d (.s (bs p2.text)))]), (4, [(.d (.i .i64 p1.kind)), (.d (.i .i64 p1.num)), (.d (.s (bs p1.text)))])]⟩) (by kernel_rfl) ?_
          refine nil_in ?_
          refine next_in ?_
          refine ret_in ?_
          refine thenK_ret ?_
          have h := Option.some.inj h; subst h
          exact retn_step (vs := [(vGValue (GValue.mk 0 0 [])), (.d (.i .i64 0))]) (by kernel_rfl) (by kernel_rfl)
        · clear h; intro h
          refine skip_in ?_
          refine next_in ?_
          refine seq_in ?_
          refine seq_in ?_
          refine ops_in ?_
          refine sts_ok 1 (s' := ⟨[(49, (.d (.i .i64 p0))), (47, (.d (.b (if y6 = true then true else y7)))), (46, (.ite (true && (y6 == false)) (.d (.b y7)))), (45, (.ite (true && (y6 == false)) (vGValue p2))), (44, (.d (.b y6))), (43, (.d (.b y6))), (42, (vGValue p1)), (40, (.d (.b (!y5)))), (39, (.d (.b y5))), (38, (vGValue p2)), (37, (vGValue p1)), (36, (.d (.i .i64 p0))), (29, (.d (.b (decide (p0 ≤ 2))))), (28, (.d (.i .i64 p0))), (26, (.d (.b (if (if (!y1) = true then true else (!y2)) = true then true else (!y3))))), (25, (.ite (true && ((if (!y1) = true then true else (!y2)) == false)) (.d (.b (!y3))))), (24, (.ite (true && ((if (!y1) = true then true else (!y2)) == false)) (.d (.b y3)))), (23, (.ite (true && ((if (!y1) = true then true else (!y2)) == false)) (vGValue p2))), (22, (.d (.b (if (!y1) = true then true else (!y2))))), (21, (.d (.b (if (!y1) = true then true else (!y2))))), (20, (.ite (true && ((!y1) == false)) (.d (.b (!y2))))), (19, (.ite (true && ((!y1) == false)) (.d (.b y2)))), (18, (.ite (true && ((!y1) == false)) (vGValue p1))), (17, (.d (.b (!y1)))), (16, (.d (.b (!y1)))), (15, (.d (.b y1))), (14, (.d (.i .i64 p0))), (7, (.d (.i .i64 0))), (6, (.ptr 6 0)), (5, (.ptr 5 0)), (4, (.ptr 4 0)), (0, (.d (.i .i64 p0))), (1, (vGValue p1)), (2, (vGValue p2))], [(6, [(.d (.i .i64 0)), (.d (.i .i64 0)), (.d (.s (bs [])))]), (5, [(.d (.i .i64 p2.kind)), (.d (.i .i64 p2.num)), (.d (.s (bs p2.text)))]), (4, [(.d (.i .i64 p1.kind)), (.d (.i .i64 p1.num)), (.d (.s (bs p1.text)))])]⟩) (by kernel_rfl) ?_
          refine nil_in ?_
          refine next_in ?_
          refine block_in ?_
          refine seq_in ?_
          refine ops_in ?_
          refine sts_ok 2 (s' := ⟨[(50, (.d (.b (decide (p0 = 9))))), (51, (.d (.b (decide (p0 = 9))))), (49, (.d (.i .i64 p0))), (47, (.d (.b (if y6 = true then true else y7)))), (46, (.ite (true && (y6 == false)) (.d (.b y7)))), (45, (.ite (true && (y6 == false)) (vGValue p2))), (44, (.d (.b y6))), (43, (.d (.b y6))), (42, (vGValue p1)), (40, (.d (.b (!y5)))), (39, (.d (.b y5))), (38, (vGValue p2)), (37, (vGValue p1)), (36, (.d (.i .i64 p0))), (29, (.d (.b (decide (p0 ≤ 2))))), (28, (.d (.i .i64 p0))), (26, (.d (.b (if (if (!y1) = true then true else (!y2)) = true then true else (!y3))))), (25, (.ite (true && ((if (!y1) = true then true else (!y2)) == false)) (.d (.b (!y3))))), (24, (.ite (true && ((if (!y1) = true then true else (!y2)) == false)) (.d (.b y3)))), (23, (.ite (true && ((if (!y1) = true then true else (!y2)) == false)) (vGValue p2))), (22, (.d (.b (if (!y1) = true then true else (!y2))))), (21, (.d (.b (if (!y1) = true then true else (!y2))))), (20, (.ite (true && ((!y1) == false)) (.d (.b (!y2))))), (19, (.ite (true && ((!y1) == false)) (.d (.b y2)))), (18, (.ite (true && ((!y1) == false)) (vGValue p1))), (17, (.d (.b (!y1)))), (16, (.d (.b (!y1)))), (15, (.d (.b y1))), (14, (.d (.i .i64 p0))), (7, (.d (.i .i64 0))), (6, (.ptr 6 0)), (5, (.ptr 5 0)), (4, (.ptr 4 0)), (0, (.d (.i .i64 p0))), (1, (vGValue p1)), (2, (vGValue p2))], [(6, [(.d (.i .i64 0)), (.d (.i .i64 0)), (.d (.s (bs [])))]), (5, [(.d (.i .i64 p2.kind)), (.d (.i .i64 p2.num)), (.d (.s (bs p2.text)))]), (4, [(.d (.i .i64 p1.kind)), (.d (.i .i64 p1.num)), (.d (.s (bs p1.text)))])]⟩) (by kernel_rfl) ?_
          refine nil_in ?_
          refine next_in ?_
          refine cond_step h (by kernel_rfl) ?_ ?_
          · clear h; intro h
            refine seq_in ?_
            refine seq_in ?_
            refine ops_in ?_
            refine sts_ok 8 (s' := ⟨[(59, (.d (.b (decide (200 < (IntKind.wrap .i64 ((p1.text.length : Int) + (p2.text.length : Int)))))))), (58, (.d (.i .i64 (IntKind.wrap .i64 ((p1.text.length : Int) + (p2.text.length : Int)))))), (57, (.d (.i .i64 (p2.text.length : Int)))), (56, (.d (.s (bs p2.text)))), (55, (.ptr 5 2)), (54, (.d (.i .i64 (p1.text.length : Int)))), (53, (.d (.s (bs p1.text)))), (52, (.ptr 4 2)), (50, (.d (.b (decide (p0 = 9))))), (51, (.d (.b (decide (p0 = 9))))), (49, (.d (.i .i64 p0))), (47, (.d (.b (if y6 = true then true else y7)))), (46, (.ite (true && (y6 == false)) (.d (.b y7)))), (45, (.ite (true && (y6 == false)) (vGValue p2))), (44, (.d (.b y6))), (43, (.d (.b y6))), (42, (vGValue p1)), (40, (.d (.b (!y5)))), (39, (.d (.b y5))), (38, (vGValue p2)), (37, (vGValue p1)), (36, (.d (.i .i64 p0))), (29, (.d (.b (decide (p0 ≤ 2))))), (28, (.d (.i .i64 p0))), (26, (.d (.b (if (if (!y1) = true then true else (!y2)) = true then true else (!y3))))), (25, (.ite (true && ((if (!y1) = true then true else (!y2)) == false)) (.d (.b (!y3))))), (24, (.ite (true && ((if (!y1) = true then true else (!y2)) == false)) (.d (.b y3)))), (23, (.ite (true && ((if (!y1) = true then true else (!y2)) == false)) (vGValue p2))), (22, (.d (.b (if (!y1) = true then true else (!y2))))), (21, (.d (.b (if (!y1) = true then true else (!y2))))), (20, (.ite (true && ((!y1) == false)) (.d (.b (!y2))))), (19, (.ite (true && ((!y1) == false)) (.d (.b y2)))), (18, (.ite (true && ((!y1) == false)) (vGValue p1))), (17, (.d (.b (!y1)))), (16, (.d (.b (!y1)))), (15, (.d (.b y1))), (14, (.d (.i .i64 p0))), (7, (.d (.i .i64 0))), (6, (.ptr 6 0)), (5, (.ptr 5 0)), (4, (.ptr 4 0)), (0, (.d (.i .i64 p0))), (1, (vGValue p1)), (2, (vGValue p2))], [(6, [(.d (.i .i64 0)), (.d (.i .i64 0)), (.d (.s (bs [])))]), (5, [(.d (.i .i64 p2.kind)), (.d (.i .i64 p2.num)), (.d (.s (bs p2.text)))]), (4, [(.d (.i .i64 p1.kind)), (.d (.i .i64 p1.num)), (.d (.s (bs p1.text)))])]⟩) (by kernel_rfl) ?_
            refine nil_in ?_
            refine next_in ?_
            refine cond_step h (by kernel_rfl) ?_ ?_
            · clear h; intro h
              refine seq_in ?_
              refine ops_in ?_
              refine sts_ok 3 (s' := ⟨[(7, (.d (.i .i64 2))), (60, (vGValue (GValue.mk 0 0 []))), (59, (.d (.b (decide (200 < (IntKind.wrap .i64 ((p1.text.length : Int) + (p2.text.length : Int)))))))), (58, (.d (.i .i64 (IntKind.wrap .i64 ((p1.text.length : Int) + (p2.text.length : Int)))))), (57, (.d (.i .i64 (p2.text.length : Int)))), (56, (.d (.s (bs p2.text)))), (55, (.ptr 5 2)), (54, (.d (.i .i64 (p1.text.length : Int)))), (53, (.d (.s (bs p1.text)))), (52, (.ptr 4 2)), (50, (.d (.b (decide (p0 = 9))))), (51, (.d (.b (decide (p0 = 9))))), (49, (.d (.i .i64 p0))), (47, (.d (.b (if y6 = true then true else y7)))), (46, (.ite (true && (y6 == false)) (.d (.b y7)))), (45, (.ite (true && (y6 == false)) (vGValue p2))), (44, (.d (.b y6))), (43, (.d (.b y6))), (42, (vGValue p1)), (40, (.d (.b (!y5)))), (39, (.d (.b y5))), (38, (vGValue p2)), (37, (vGValue p1)), (36, (.d (.i .i64 p0))), (29, (.d (.b (decide (p0 ≤ 2))))), (28, (.d (.i .i64 p0))), (26, (.d (.b (if (if (!y1) = true then true else (!y2)) = true then true else (!y3))))), (25, (.ite (true && ((if (!y1) = true then true else (!y2)) == false)) (.d (.b (!y3))))), (24, (.ite (true && ((if (!y1) = true then true else (!y2)) == false)) (.d (.b y3)))), (23, (.ite (true && ((if (!y1) = true then true else (!y2)) == false)) (vGValue p2))), (22, (.d (.b (if (!y1) = true then true else (!y2))))), (21, (.d (.b (if (!y1) = true then true else (!y2))))), (20, (.ite (true && ((!y1) == false)) (.d (.b (!y2))))), (19, (.ite (true && ((!y1) == false)) (.d (.b y2)))), (18, (.ite (true && ((!y1) == false)) (vGValue p1))), (17, (.d (.b (!y1)))), (16, (.d (.b (!y1)))), (15, (.d (.b y1))), (14, (.d (.i .i64 p0))), (7, (.d (.i .i64 0))), (6, (.ptr 6 0)), (5, (.ptr 5 0)), (4, (.ptr 4 0)), (0, (.d (.i .i64 p0))), (1, (vGValue p1)), (2, (vGValue p2))], [(6, [(.d (.i .i64 0)), (.d (.i .i64 0)), (.d (.s (bs [])))]), (5, [(.d (.i .i64 p2.kind)), (.d (.i .i64 p2.num)), (.d (.s (bs p2.text)))]), (4, [(.d (.i .i64 p1.kind)), (.d (.i .i64 p1.num)), (.d (.s (bs p1.text)))])]⟩) (by kernel_rfl) ?_
              refine nil_in ?_
              refine next_in ?_
              refine ret_in ?_
              refine thenK_ret ?_
              refine blockK_ret ?_
              refine thenK_ret ?_
              have h := Option.some.inj h; subst h
              exact retn_step (vs := [(vGValue (GValue.mk 0 0 [])), (.d (.i .i64 2))]) (by kernel_rfl) (by kernel_rfl)
            · clear h; intro h
              refine skip_in ?_
              refine next_in ?_
              refine seq_in ?_
              refine ops_in ?_
              refine sts_ok 4 (s' := ⟨[(64, (.d (.s (bs p2.text)))), (63, (.ptr 5 2)), (62, (.d (.s (bs p1.text)))), (61, (.ptr 4 2)), (59, (.d (.b (decide (200 < (IntKind.wrap .i64 ((p1.text.length : Int) + (p2.text.length : Int)))))))), (58, (.d (.i .i64 (IntKind.wrap .i64 ((p1.text.length : Int) + (p2.text.length : Int)))))), (57, (.d (.i .i64 (p2.text.length : Int)))), (56, (.d (.s (bs p2.text)))), (55, (.ptr 5 2)), (54, (.d (.i .i64 (p1.text.length : Int)))), (53, (.d (.s (bs p1.text)))), (52, (.ptr 4 2)), (50, (.d (.b (decide (p0 = 9))))), (51, (.d (.b (decide (p0 = 9))))), (49, (.d (.i .i64 p0))), (47, (.d (.b (if y6 = true then true else y7)))), (46, (.ite (true && (y6 == false)) (.d (.b y7)))), (45, (.ite (true && (y6 == false)) (vGValue p2))), (44, (.d (.b y6))), (43, (.d (.b y6))), (42, (vGValue p1)), (40, (.d (.b (!y5)))), (39, (.d (.b y5))), (38, (vGValue p2)), (37, (vGValue p1)), (36, (.d (.i .i64 p0))), (29, (.d (.b (decide (p0 ≤ 2))))), (28, (.d (.i .i64 p0))), (26, (.d (.b (if (if (!y1) = true then true else (!y2)) = true then true else (!y3))))), (25, (.ite (true && ((if (!y1) = true then true else (!y2)) == false)) (.d (.b (!y3))))), (24, (.ite (true && ((if (!y1) = true then true else (!y2)) == false)) (.d (.b y3)))), (23, (.ite (true && ((if (!y1) = true then true else (!y2)) == false)) (vGValue p2))), (22, (.d (.b (if (!y1) = true then true else (!y2))))), (21, (.d (.b (if (!y1) = true then true else (!y2))))), (20, (.ite (true && ((!y1) == false)) (.d (.b (!y2))))), (19, (.ite (true && ((!y1) == false)) (.d (.b y2)))), (18, (.ite (true && ((!y1) == false)) (vGValue p1))), (17, (.d (.b (!y1)))), (16, (.d (.b (!y1)))), (15, (.d (.b y1))), (14, (.d (.i .i64 p0))), (7, (.d (.i .i64 0))), (6, (.ptr 6 0)), (5, (.ptr 5 0)), (4, (.ptr 4 0)), (0, (.d (.i .i64 p0))), (1, (vGValue p1)), (2, (vGValue p2))], [(6, [(.d (.i .i64 0)), (.d (.i .i64 0)), (.d (.s (bs [])))]), (5, [(.d (.i .i64 p2.kind)), (.d (.i .i64 p2.num)), (.d (.s (bs p2.text)))]), (4, [(.d (.i .i64 p1.kind)), (.d (.i .i64 p1.num)), (.d (.s (bs p1.text)))])]⟩) (by kernel_rfl) ?_
              refine v_step (m := catS p1.text p2.text) (v' := fun y => (.d (.s (bs y)))) h rfl rfl (fun y hy => vop_cat (a := p1.text) (b := p2.text) hy (by kernel_rfl) (by kernel_rfl) (by kernel_rfl)) ?_
              clear h; intro y8 h
              refine call_step (m := sTextValue y8) (args := [(.d (.s (bs y8)))]) (v' := (fun y => (vGValue y))) h (OK_sTextValue y8) (by kernel_rfl) (by kernel_rfl) (fun _ => rfl) ?_
              clear h; intro y9 h
              refine sts_ok 2 (s' := ⟨[(7, (.d (.i .i64 0))), (66, (vGValue y9)), (65, (.d (.s (bs y8)))), (64, (.d (.s (bs p2.text)))), (63, (.ptr 5 2)), (62, (.d (.s (bs p1.text)))), (61, (.ptr 4 2)), (59, (.d (.b (decide (200 < (IntKind.wrap .i64 ((p1.text.length : Int) + (p2.text.length : Int)))))))), (58, (.d (.i .i64 (IntKind.wrap .i64 ((p1.text.length : Int) + (p2.text.length : Int)))))), (57, (.d (.i .i64 (p2.text.length : Int)))), (56, (.d (.s (bs p2.text)))), (55, (.ptr 5 2)), (54, (.d (.i .i64 (p1.text.length : Int)))), (53, (.d (.s (bs p1.text)))), (52, (.ptr 4 2)), (50, (.d (.b (decide (p0 = 9))))), (51, (.d (.b (decide (p0 = 9))))), (49, (.d (.i .i64 p0))), (47, (.d (.b (if y6 = true then true else y7)))), (46, (.ite (true && (y6 == false)) (.d (.b y7)))), (45, (.ite (true && (y6 == false)) (vGValue p2))), (44, (.d (.b y6))), (43, (.d (.b y6))), (42, (vGValue p1)), (40, (.d (.b (!y5)))), (39, (.d (.b y5))), (38, (vGValue p2)), (37, (vGValue p1)), (36, (.d (.i .i64 p0))), (29, (.d (.b (decide (p0 ≤ 2))))), (28, (.d (.i .i64 p0))), (26, (.d (.b (if (if (!y1) = true then true else (!y2)) = true then true else (!y3))))), (25, (.ite (true && ((if (!y1) = true then true else (!y2)) == false)) (.d (.b (!y3))))), (24, (.ite (true && ((if (!y1) = true then true else (!y2)) == false)) (.d (.b y3)))), (23, (.ite (true && ((if (!y1) = true then true else (!y2)) == false)) (vGValue p2))), (22, (.d (.b (if (!y1) = true then true else (!y2))))), (21, (.d (.b (if (!y1) = true then true else (!y2))))), (20, (.ite (true && ((!y1) == false)) (.d (.b (!y2))))), (19, (.ite (true && ((!y1) == false)) (.d (.b y2)))), (18, (.ite (true && ((!y1) == false)) (vGValue p1))), (17, (.d (.b (!y1)))), (16, (.d (.b (!y1)))), (15, (.d (.b y1))), (14, (.d (.i .i64 p0))), (7, (.d (.i .i64 0))), (6, (.ptr 6 0)), (5, (.ptr 5 0)), (4, (.ptr 4 0)), (0, (.d (.i .i64 p0))), (1, (vGValue p1)), (2, (vGValue p2))], [(6, [(.d (.i .i64 y9.kind)), (.d (.i .i64 y9.num)), (.d (.s (bs y9.text)))]), (5, [(.d (.i .i64 p2.kind)), (.d (.i .i64 p2.num)), (.d (.s (bs p2.text)))]), (4, [(.d (.i .i64 p1.kind)), (.d (.i .i64 p1.num)), (.d (.s (bs p1.text)))])]⟩) (by kernel_rfl) ?_
              refine nil_in ?_
              refine next_in ?_
              refine ret_in ?_
              refine blockK_ret ?_
              refine thenK_ret ?_
              have h := Option.some.inj h; subst h
              exact retn_step (vs := [(vGValue y9), (.d (.i .i64 0))]) (by kernel_rfl) (by kernel_rfl)
          · clear h; intro h
            refine seq_in ?_
            refine ops_in ?_
            refine sts_ok 2 (s' := ⟨[(67, (.d (.b (decide (p0 = 10))))), (68, (.d (.b (decide (p0 = 10))))), (50, (.d (.b (decide (p0 = 9))))), (51, (.d (.b (decide (p0 = 9))))), (49, (.d (.i .i64 p0))), (47, (.d (.b (if y6 = true then true else y7)))), (46, (.ite (true && (y6 == false)) (.d (.b y7)))), (45, (.ite (true && (y6 == false)) (vGValue p2))), (44, (.d (.b y6))), (43, (.d (.b y6))), (42, (vGValue p1)), (40, (.d (.b (!y5)))), (39, (.d (.b y5))), (38, (vGValue p2)), (37, (vGValue p1)), (36, (.d (.i .i64 p0))), (29, (.d (.b (decide (p0 ≤ 2))))), (28, (.d (.i .i64 p0))), (26, (.d (.b (if (if (!y1) = true then true else (!y2)) = true then true else (!y3))))), (25, (.ite (true && ((if (!y1) = true then true else (!y2)) == false)) (.d (.b (!y3))))), (24, (.ite (true && ((if (!y1) = true then true else (!y2)) == false)) (.d (.b y3)))), (23, (.ite (true && ((if (!y1) = true then true else (!y2)) == false)) (vGValue p2))), (22, (.d (.b (if (!y1) = true then true else (!y2))))), (21, (.d (.b (if (!y1) = true then true else (!y2))))), (20, (.ite (true && ((!y1) == false)) (.d (.b (!y2))))), (19, (.ite (true && ((!y1) == false)) (.d (.b y2)))), (18, (.ite (true && ((!y1) == false)) (vGValue p1))), (17, (.d (.b (!y1)))), (16, (.d (.b (!y1)))), (15, (.d (.b y1))), (14, (.d (.i .i64 p0))), (7, (.d (.i .i64 0))), (6, (.ptr 6 0)), (5, (.ptr 5 0)), (4, (.ptr 4 0)), (0, (.d (.i .i64 p0))), (1, (vGValue p1)), (2, (vGValue p2))], [(6, [(.d (.i .i64 0)), (.d (.i .i64 0)), (.d (.s (bs [])))]), (5, [(.d (.i .i64 p2.kind)), (.d (.i .i64 p2.num)), (.d (.s (bs p2.text)))]), (4, [(.d (.i .i64 p1.kind)), (.d (.i .i64 p1.num)), (.d (.s (bs p1.text)))])]⟩) (by kernel_rfl) ?_
            refine nil_in ?_
            refine next_in ?_
            refine cond_step h (by kernel_rfl) ?_ ?_
            · clear h; intro h
              refine seq_in ?_
              refine ops_in ?_
              refine sts_ok 4 (s' := ⟨[(73, (.d (.i .i64 p2.num))), (72, (.ptr 5 1)), (71, (.d (.i .i64 p1.num))), (70, (.ptr 4 1)), (67, (.d (.b (decide (p0 = 10))))), (68, (.d (.b (decide (p0 = 10))))), (50, (.d (.b (decide (p0 = 9))))), (51, (.d (.b (decide (p0 = 9))))), (49, (.d (.i .i64 p0))), (47, (.d (.b (if y6 = true then true else y7)))), (46, (.ite (true && (y6 == false)) (.d (.b y7)))), (45, (.ite (true && (y6 == false)) (vGValue p2))), (44, (.d (.b y6))), (43, (.d (.b y6))), (42, (vGValue p1)), (40, (.d (.b (!y5)))), (39, (.d (.b y5))), (38, (vGValue p2)), (37, (vGValue p1)), (36, (.d (.i .i64 p0))), (29, (.d (.b (decide (p0 ≤ 2))))), (28, (.d (.i .i64 p0))), (26, (.d (.b (if (if (!y1) = true then true else (!y2)) = true then true else (!y3))))), (25, (.ite (true && ((if (!y1) = true then true else (!y2)) == false)) (.d (.b (!y3))))), (24, (.ite (true && ((if (!y1) = true then true else (!y2)) == false)) (.d (.b y3)))), (23, (.ite (true && ((if (!y1) = true then true else (!y2)) == false)) (vGValue p2))), (22, (.d (.b (if (!y1) = true then true else (!y2))))), (21, (.d (.b (if (!y1) = true then true else (!y2))))), (20, (.ite (true && ((!y1) == false)) (.d (.b (!y2))))), (19, (.ite (true && ((!y1) == false)) (.d (.b y2)))), (18, (.ite (true && ((!y1) == false)) (vGValue p1))), (17, (.d (.b (!y1)))), (16, (.d (.b (!y1)))), (15, (.d (.b y1))), (14, (.d (.i .i64 p0))), (7, (.d (.i .i64 0))), (6, (.ptr 6 0)), (5, (.ptr 5 0)), (4, (.ptr 4 0)), (0, (.d (.i .i64 p0))), (1, (vGValue p1)), (2, (vGValue p2))], [(6, [(.d (.i .i64 0)), (.d (.i .i64 0)), (.d (.s (bs [])))]), (5, [(.d (.i .i64 p2.kind)), (.d (.i .i64 p2.num)), (.d (.s (bs p2.text)))]), (4, [(.d (.i .i64 p1.kind)), (.d (.i .i64 p1.num)), (.d (.s (bs p1.text)))])]⟩) (by kernel_rfl) ?_
              refine call_step (m := sAddNum p1.num p2.num) (args := [(.d (.i .i64 p1.num)), (.d (.i .i64 p2.num))]) (v' := (fun y => (.tup [(.d (.i .i64 y.1)), (.d (.b y.2))]))) h (OK_sAddNum p1.num p2.num) (by kernel_rfl) (by kernel_rfl) (fun _ => rfl) ?_
              clear h; intro y10 h
              refine sts_ok 5 (s' := ⟨[(9, (.d (.b y10.2))), (8, (.d (.i .i64 y10.1))), (76, (.d (.b y10.2))), (75, (.d (.i .i64 y10.1))), (69, (.tup [(.d (.i .i64 y10.1)), (.d (.b y10.2))])), (74, (.tup [(.d (.i .i64 y10.1)), (.d (.b y10.2))])), (73, (.d (.i .i64 p2.num))), (72, (.ptr 5 1)), (71, (.d (.i .i64 p1.num))), (70, (.ptr 4 1)), (67, (.d (.b (decide (p0 = 10))))), (68, (.d (.b (decide (p0 = 10))))), (50, (.d (.b (decide (p0 = 9))))), (51, (.d (.b (decide (p0 = 9))))), (49, (.d (.i .i64 p0))), (47, (.d (.b (if y6 = true then true else y7)))), (46, (.ite (true && (y6 == false)) (.d (.b y7)))), (45, (.ite (true && (y6 == false)) (vGValue p2))), (44, (.d (.b y6))), (43, (.d (.b y6))), (42, (vGValue p1)), (40, (.d (.b (!y5)))), (39, (.d (.b y5))), (38, (vGValue p2)), (37, (vGValue p1)), (36, (.d (.i .i64 p0))), (29, (.d (.b (decide (p0 ≤ 2))))), (28, (.d (.i .i64 p0))), (26, (.d (.b (if (if (!y1) = true then true else (!y2)) = true then true else (!y3))))), (25, (.ite (true && ((if (!y1) = true then true else (!y2)) == false)) (.d (.b (!y3))))), (24, (.ite (true && ((if (!y1) = true then true else (!y2)) == false)) (.d (.b y3)))), (23, (.ite (true && ((if (!y1) = true then true else (!y2)) == false)) (vGValue p2))), (22, (.d (.b (if (!y1) = true then true else (!y2))))), (21, (.d (.b (if (!y1) = true then true else (!y2))))), (20, (.ite (true && ((!y1) == false)) (.d (.b (!y2))))), (19, (.ite (true && ((!y1) == false)) (.d (.b y2)))), (18, (.ite (true && ((!y1) == false)) (vGValue p1))), (17, (.d (.b (!y1)))), (16, (.d (.b (!y1)))), (15, (.d (.b y1))), (14, (.d (.i .i64 p0))), (7, (.d (.i .i64 0))), (6, (.ptr 6 0)), (5, (.ptr 5 0)), (4, (.ptr 4 0)), (0, (.d (.i .i64 p0))), (1, (vGValue p1)), (2, (vGValue p2))], [(6, [(.d (.i .i64 0)), (.d (.i .i64 0)), (.d (.s (bs [])))]), (5, [(.d (.i .i64 p2.kind)), (.d (.i .i64 p2.num)), (.d (.s (bs p2.text)))]), (4, [(.d (.i .i64 p1.kind)), (.d (.i .i64 p1.num)), (.d (.s (bs p1.text)))])]⟩) (by kernel_rfl) ?_
              refine nil_in ?_
              refine next_in ?_
              refine seq_in ?_
              refine ops_in ?_
              refine sts_ok 2 (s' := ⟨[(78, (.d (.b y10.2))), (77, (.d (.i .i64 y10.1))), (9, (.d (.b y10.2))), (8, (.d (.i .i64 y10.1))), (76, (.d (.b y10.2))), (75, (.d (.i .i64 y10.1))), (69, (.tup [(.d (.i .i64 y10.1)), (.d (.b y10.2))])), (74, (.tup [(.d (.i .i64 y10.1)), (.d (.b y10.2))])), (73, (.d (.i .i64 p2.num))), (72, (.ptr 5 1)), (71, (.d (.i .i64 p1.num))), (70, (.ptr 4 1)), (67, (.d (.b (decide (p0 = 10))))), (68, (.d (.b (decide (p0 = 10))))), (50, (.d (.b (decide (p0 = 9))))), (51, (.d (.b (decide (p0 = 9))))), (49, (.d (.i .i64 p0))), (47, (.d (.b (if y6 = true then true else y7)))), (46, (.ite (true && (y6 == false)) (.d (.b y7)))), (45, (.ite (true && (y6 == false)) (vGValue p2))), (44, (.d (.b y6))), (43, (.d (.b y6))), (42, (vGValue p1)), (40, (.d (.b (!y5)))), (39, (.d (.b y5))), (38, (vGValue p2)), (37, (vGValue p1)), (36, (.d (.i .i64 p0))), (29, (.d (.b (decide (p0 ≤ 2))))), (28, (.d (.i .i64 p0))), (26, (.d (.b (if (if (!y1) = true then true else (!y2)) = true then true else (!y3))))), (25, (.ite (true && ((if (!y1) = true then true else (!y2)) == false)) (.d (.b (!y3))))), (24, (.ite (true && ((if (!y1) = true then true else (!y2)) == false)) (.d (.b y3)))), (23, (.ite (true && ((if (!y1) = true then true else (!y2)) == false)) (vGValue p2))), (22, (.d (.b (if (!y1) = true then true else (!y2))))), (21, (.d (.b (if (!y1) = true then true else (!y2))))), (20, (.ite (true && ((!y1) == false)) (.d (.b (!y2))))), (19, (.ite (true && ((!y1) == false)) (.d (.b y2)))), (18, (.ite (true && ((!y1) == false)) (vGValue p1))), (17, (.d (.b (!y1)))), (16, (.d (.b (!y1)))), (15, (.d (.b y1))), (14, (.d (.i .i64 p0))), (7, (.d (.i .i64 0))), (6, (.ptr 6 0)), (5, (.ptr 5 0)), (4, (.ptr 4 0)), (0, (.d (.i .i64 p0))), (1, (vGValue p1)), (2, (vGValue p2))], [(6, [(.d (.i .i64 0)), (.d (.i .i64 0)), (.d (.s (bs [])))]), (5, [(.d (.i .i64 p2.kind)), (.d (.i .i64 p2.num)), (.d (.s (bs p2.text)))]), (4, [(.d (.i .i64 p1.kind)), (.d (.i .i64 p1.num)), (.d (.s (bs p1.text)))])]⟩) (by kernel_rfl) ?_
              refine call_step (m := sL6Num y10.1 y10.2) (args := [(.d (.i .i64 y10.1)), (.d (.b y10.2))]) (v' := (fun y => (.tup [(vGValue y.1), (.d (.i .i64 y.2))]))) h (OK_sL6Num y10.1 y10.2) (by kernel_rfl) (by kernel_rfl) (fun _ => rfl) ?_
              clear h; intro y11 h
              refine sts_ok 4 (s' := ⟨[(7, (.d (.i .i64 y11.2))), (81, (.d (.i .i64 y11.2))), (80, (vGValue y11.1)), (79, (.tup [(vGValue y11.1), (.d (.i .i64 y11.2))])), (78, (.d (.b y10.2))), (77, (.d (.i .i64 y10.1))), (9, (.d (.b y10.2))), (8, (.d (.i .i64 y10.1))), (76, (.d (.b y10.2))), (75, (.d (.i .i64 y10.1))), (69, (.tup [(.d (.i .i64 y10.1)), (.d (.b y10.2))])), (74, (.tup [(.d (.i .i64 y10.1)), (.d (.b y10.2))])), (73, (.d (.i .i64 p2.num))), (72, (.ptr 5 1)), (71, (.d (.i .i64 p1.num))), (70, (.ptr 4 1)), (67, (.d (.b (decide (p0 = 10))))), (68, (.d (.b (decide (p0 = 10))))), (50, (.d (.b (decide (p0 = 9))))), (51, (.d (.b (decide (p0 = 9))))), (49, (.d (.i .i64 p0))), (47, (.d (.b (if y6 = true then true else y7)))), (46, (.ite (true && (y6 == false)) (.d (.b y7)))), (45, (.ite (true && (y6 == false)) (vGValue p2))), (44, (.d (.b y6))), (43, (.d (.b y6))), (42, (vGValue p1)), (40, (.d (.b (!y5)))), (39, (.d (.b y5))), (38, (vGValue p2)), (37, (vGValue p1)), (36, (.d (.i .i64 p0))), (29, (.d (.b (decide (p0 ≤ 2))))), (28, (.d (.i .i64 p0))), (26, (.d (.b (if (if (!y1) = true then true else (!y2)) = true then true else (!y3))))), (25, (.ite (true && ((if (!y1) = true then true else (!y2)) == false)) (.d (.b (!y3))))), (24, (.ite (true && ((if (!y1) = true then true else (!y2)) == false)) (.d (.b y3)))), (23, (.ite (true && ((if (!y1) = true then true else (!y2)) == false)) (vGValue p2))), (22, (.d (.b (if (!y1) = true then true else (!y2))))), (21, (.d (.b (if (!y1) = true then true else (!y2))))), (20, (.ite (true && ((!y1) == false)) (.d (.b (!y2))))), (19, (.ite (true && ((!y1) == false)) (.d (.b y2)))), (18, (.ite (true && ((!y1) == false)) (vGValue p1))), (17, (.d (.b (!y1)))), (16, (.d (.b (!y1)))), (15, (.d (.b y1))), (14, (.d (.i .i64 p0))), (7, (.d (.i .i64 0))), (6, (.ptr 6 0)), (5, (.ptr 5 0)), (4, (.ptr 4 0)), (0, (.d (.i .i64 p0))), (1, (vGValue p1)), (2, (vGValue p2))], [(6, [(.d (.i .i64 y11.1.kind)), (.d (.i .i64 y11.1.num)), (.d (.s (bs y11.1.text)))]), (5, [(.d (.i .i64 p2.kind)), (.d (.i .i64 p2.num)), (.d (.s (bs p2.text)))]), (4, [(.d (.i .i64 p1.kind)), (.d (.i .i64 p1.num)), (.d (.s (bs p1.text)))])]⟩) (by kernel_rfl) ?_
              refine nil_in ?_
              refine next_in ?_
              refine ret_in ?_
              refine blockK_ret ?_
              refine thenK_ret ?_
              have h := Option.some.inj h; subst h
              exact retn_step (vs := [(vGValue y11.1), (.d (.i .i64 y11.2))]) (by kernel_rfl) (by kernel_rfl)
            · clear h; intro h
              refine seq_in ?_
              refine ops_in ?_
              refine sts_ok 2 (s' := ⟨[(82, (.d (.b (decide (p0 = 11))))), (83, (.d (.b (decide (p0 = 11))))), (67, (.d (.b (decide (p0 = 10))))), (68, (.d (.b (decide (p0 = 10))))), (50, (.d (.b (decide (p0 = 9))))), (51, (.d (.b (decide (p0 = 9))))), (49, (.d (.i .i64 p0))), (47, (.d (.b (if y6 = true then true else y7)))), (46, (.ite (true && (y6 == false)) (.d (.b y7)))), (45, (.ite (true && (y6 == false)) (vGValue p2))), (44, (.d (.b y6))), (43, (.d (.b y6))), (42, (vGValue p1)), (40, (.d (.b (!y5)))), (39, (.d (.b y5))), (38, (vGValue p2)), (37, (vGValue p1)), (36, (.d (.i .i64 p0))), (29, (.d (.b (decide (p0 ≤ 2))))), (28, (.d (.i .i64 p0))), (26, (.d (.b (if (if (!y1) = true then true else (!y2)) = true then true else (!y3))))), (25, (.ite (true && ((if (!y1) = true then true else (!y2)) == false)) (.d (.b (!y3))))), (24, (.ite (true && ((if (!y1) = true then true else (!y2)) == false)) (.d (.b y3)))), (23, (.ite (true && ((if (!y1) = true then true else (!y2)) == false)) (vGValue p2))), (22, (.d (.b (if (!y1) = true then true else (!y2))))), (21, (.d (.b (if (!y1) = true then true else (!y2))))), (20, (.ite (true && ((!y1) == false)) (.d (.b (!y2))))), (19, (.ite (true && ((!y1) == false)) (.d (.b y2)))), (18, (.ite (true && ((!y1) == false)) (vGValue p1))), (17, (.d (.b (!y1)))), (16, (.d (.b (!y1)))), (15, (.d (.b y1))), (14, (.d (.i .i64 p0))), (7, (.d (.i .i64 0))), (6, (.ptr 6 0)), (5, (.ptr 5 0)), (4, (.ptr 4 0)), (0, (.d (.i .i64 p0))), (1, (vGValue p1)), (2, (vGValue p2))], [(6, [(.d (.i .i64 0)), (.d (.i .i64 0)), (.d (.s (bs [])))]), (5, [(.d (.i .i64 p2.kind)), (.d (.i .i64 p2.num)), (.d (.s (bs p2.text)))]), (4, [(.d (.i .i64 p1.kind)), (.d (.i .i64 p1.num)), (.d (.s (bs p1.text)))])]⟩) (by kernel_rfl) ?_
              refine nil_in ?_
              refine next_in ?_
              refine cond_step h (by kernel_rfl) ?_ ?_
              · clear h; intro h
                refine seq_in ?_
                refine ops_in ?_
                refine sts_ok 4 (s' := ⟨[(88, (.d (.i .i64 p2.num))), (87, (.ptr 5 1)), (86, (.d (.i .i64 p1.num))), (85, (.ptr 4 1)), (82, (.d (.b (decide (p0 = 11))))), (83, (.d (.b (decide (p0 = 11))))), (67, (.d (.b (decide (p0 = 10))))), (68, (.d (.b (decide (p0 = 10))))), (50, (.d (.b (decide (p0 = 9))))), (51, (.d (.b (decide (p0 = 9))))), (49, (.d (.i .i64 p0))), (47, (.d (.b (if y6 = true then true else y7)))), (46, (.ite (true && (y6 == false)) (.d (.b y7)))), (45, (.ite (true && (y6 == false)) (vGValue p2))), (44, (.d (.b y6))), (43, (.d (.b y6))), (42, (vGValue p1)), (40, (.d (.b (!y5)))), (39, (.d (.b y5))), (38, (vGValue p2)), (37, (vGValue p1)), (36, (.d (.i .i64 p0))), (29, (.d (.b (decide (p0 ≤ 2))))), (28, (.d (.i .i64 p0))), (26, (.d (.b (if (if (!y1) = true then true else (!y2)) = true then true else (!y3))))), (25, (.ite (true && ((if (!y1) = true then true else (!y2)) == false)) (.d (.b (!y3))))), (24, (.ite (true && ((if (!y1) = true then true else (!y2)) == false)) (.d (.b y3)))), (23, (.ite (true && ((if (!y1) = true then true else (!y2)) == false)) (vGValue p2))), (22, (.d (.b (if (!y1) = true then true else (!y2))))), (21, (.d (.b (if (!y1) = true then true else (!y2))))), (20, (.ite (true && ((!y1) == false)) (.d (.b (!y2))))), (19, (.ite (true && ((!y1) == false)) (.d (.b y2)))), (18, (.ite (true && ((!y1) == false)) (vGValue p1))), (17, (.d (.b (!y1)))), (16, (.d (.b (!y1)))), (15, (.d (.b y1))), (14, (.d (.i .i64 p0))), (7, (.d (.i .i64 0))), (6, (.ptr 6 0)), (5, (.ptr 5 0)), (4, (.ptr 4 0)), (0, (.d (.i .i64 p0))), (1, (vGValue p1)), (2, (vGValue p2))], [(6, [(.d (.i .i64 0)), (.d (.i .i64 0)), (.d (.s (bs [])))]), (5, [(.d (.i .i64 p2.kind)), (.d (.i .i64 p2.num)), (.d (.s (bs p2.text)))]), (4, [(.d (.i .i64 p1.kind)), (.d (.i .i64 p1.num)), (.d (.s (bs p1.text)))])]⟩) (by kernel_rfl) ?_
                refine call_step (m := sSubNum p1.num p2.num) (args := [(.d (.i .i64 p1.num)), (.d (.i .i64 p2.num))]) (v' := (fun y => (.tup [(.d (.i .i64 y.1)), (.d (.b y.2))]))) h (OK_sSubNum p1.num p2.num) (by kernel_rfl) (by kernel_rfl) (fun _ => rfl) ?_
                clear h; intro y12 h
                refine sts_ok 5 (s' := ⟨[(11, (.d (.b y12.2))), (10, (.d (.i .i64 y12.1))), (91, (.d (.b y12.2))), (90, (.d (.i .i64 y12.1))), (84, (.tup [(.d (.i .i64 y12.1)), (.d (.b y12.2))])), (89, (.tup [(.d (.i .i64 y12.1)), (.d (.b y12.2))])), (88, (.d (.i .i64 p2.num))), (87, (.ptr 5 1)), (86, (.d (.i .i64 p1.num))), (85, (.ptr 4 1)), (82, (.d (.b (decide (p0 = 11))))), (83, (.d (.b (decide (p0 = 11))))), (67, (.d (.b (decide (p0 = 10))))), (68, (.d (.b (decide (p0 = 10))))), (50, (.d (.b (decide (p0 = 9))))), (51, (.d (.b (decide (p0 = 9))))), (49, (.d (.i .i64 p0))), (47, (.d (.b (if y6 = true then true else y7)))), (46, (.ite (true && (y6 == false)) (.d (.b y7)))), (45, (.ite (true && (y6 == false)) (vGValue p2))), (44, (.d (.b y6))), (43, (.d (.b y6))), (42, (vGValue p1)), (40, (.d (.b (!y5)))), (39, (.d (.b y5))), (38, (vGValue p2)), (37, (vGValue p1)), (36, (.d (.i .i64 p0))), (29, (.d (.b (decide (p0 ≤ 2))))), (28, (.d (.i .i64 p0))), (26, (.d (.b (if (if (!y1) = true then true else (!y2)) = true then true else (!y3))))), (25, (.ite (true && ((if (!y1) = true then true else (!y2)) == false)) (.d (.b (!y3))))), (24, (.ite (true && ((if (!y1) = true then true else (!y2)) == false)) (.d (.b y3)))), (23, (.ite (true && ((if (!y1) = true then true else (!y2)) == false)) (vGValue p2))), (22, (.d (.b (if (!y1) = true then true else (!y2))))), (21, (.d (.b (if (!y1) = true then true else (!y2))))), (20, (.ite (true && ((!y1) == false)) (.d (.b (!y2))))), (19, (.ite (true && ((!y1) == false)) (.d (.b y2)))), (18, (.ite (true && ((!y1) == false)) (vGValue p1))), (17, (.d (.b (!y1)))), (16, (.d (.b (!y1)))), (15, (.d (.b y1))), (14, (.d (.i .i64 p0))), (7, (.d (.i .i64 0))), (6, (.ptr 6 0)), (5, (.ptr 5 0)), (4, (.ptr 4 0)), (0, (.d (.i .i64 p0))), (1, (vGValue p1)), (2, (vGValue p2))], [(6, [(.d (.i .i64 0)), (.d (.i .i64 0)), (.d (.s (bs [])))]), (5, [(.d (.i .i64 p2.kind)), (.d (.i .i64 p2.num)), (.d (.s (bs p2.text)))]), (4, [(.d (.i .i64 p1.kind)), (.d (.i .i64 p1.num)), (.d (.s (bs p1.text)))])]⟩) (by kernel_rfl) ?_
                refine nil_in ?_
                refine next_in ?_
                refine seq_in ?_
                refine ops_in ?_
                refine sts_ok 2 (s' := ⟨[(93, (.d (.b y12.2))), (92, (.d (.i .i64 y12.1))), (11, (.d (.b y12.2))), (10, (.d (.i .i64 y12.1))), (91, (.d (.b y12.2))), (90, (.d (.i .i64 y12.1))), (84, (.tup [(.d (.i .i64 y12.1)), (.d (.b y12.2))])), (89, (.tup [(.d (.i .i64 y12.1)), (.d (.b y12.2))])), (88, (.d (.i .i64 p2.num))), (87, (.ptr 5 1)), (86, (.d (.i .i64 p1.num))), (85, (.ptr 4 1)), (82, (.d (.b (decide (p0 = 11))))), (83, (.d (.b (decide (p0 = 11))))), (67, (.d (.b (decide (p0 = 10))))), (68, (.d (.b (decide (p0 = 10))))), (50, (.d (.b (decide (p0 = 9))))), (51, (.d (.b (decide (p0 = 9))))), (49, (.d (.i .i64 p0))), (47, (.d (.b (if y6 = true then true else y7)))), (46, (.ite (true && (y6 == false)) (.d (.b y7)))), (45, (.ite (true && (y6 == false)) (vGValue p2))), (44, (.d (.b y6))), (43, (.d (.b y6))), (42, (vGValue p1)), (40, (.d (.b (!y5)))), (39, (.d (.b y5))), (38, (vGValue p2)), (37, (vGValue p1)), (36, (.d (.i .i64 p0))), (29, (.d (.b (decide (p0 ≤ 2))))), (28, (.d (.i .i64 p0))), (26, (.d (.b (if (if (!y1) = true then true else (!y2)) = true then true else (!y3))))), (25, (.ite (true && ((if (!y1) = true then true else (!y2)) == false)) (.d (.b (!y3))))), (24, (.ite (true && ((if (!y1) = true then true else (!y2)) == false)) (.d (.b y3)))), (23, (.ite (true && ((if (!y1) = true then true else (!y2)) == false)) (vGValue p2))), (22, (.d (.b (if (!y1) = true then true else (!y2))))), (21, (.d (.b (if (!y1) = true then true else (!y2))))), (20, (.ite (true && ((!y1) == false)) (.d (.b (!y2))))), (19, (.ite (true && ((!y1) == false)) (.d (.b y2)))), (18, (.ite (true && ((!y1) == false)) (vGValue p1))), (17, (.d (.b (!y1)))), (16, (.d (.b (!y1)))), (15, (.d (.b y1))), (14, (.d (.i .i64 p0))), (7, (.d (.i .i64 0))), (6, (.ptr 6 0)), (5, (.ptr 5 0)), (4, (.ptr 4 0)), (0, (.d (.i .i64 p0))), (1, (vGValue p1)), (2, (vGValue p2))], [(6, [(.d (.i .i64 0)), (.d (.i .i64 0)), (.d (.s (bs [])))]), (5, [(.d (.i .i64 p2.kind)), (.d (.i .i64 p2.num)), (.d (.s (bs p2.text)))]), (4, [(.d (.i .i64 p1.kind)), (.d (.i .i64 p1.num)), (.d (.s (bs p1.text)))])]⟩) (by kernel_rfl) ?_
                refine call_step (m := sL6Num y12.1 y12.2) (args := [(.d (.i .i64 y12.1)), (.d (.b y12.2))]) (v' := (fun y => (.tup [(vGValue y.1), (.d (.i .i64 y.2))]))) h (OK_sL6Num y12.1 y12.2) (by kernel_rfl) (by kernel_rfl) (fun _ => rfl) ?_
                clear h; intro y13 h
                refine sts_ok 4 (s' := ⟨[(7, (.d (.i .i64 y13.2))), (96, (.d (.i .i64 y13.2))), (95, (vGValue y13.1)), (94, (.tup [(vGValue y13.1), (.d (.i .i64 y13.2))])), (93, (.d (.b y12.2))), (92, (.d (.i .i64 y12.1))), (11, (.d (.b y12.2))), (10, (.d (.i .i64 y12.1))), (91, (.d (.b y12.2))), (90, (.d (.i .i64 y12.1))), (84, (.tup [(.d (.i .i64 y12.1)), (.d (.b y12.2))])), (89, (.tup [(.d (.i .i64 y12.1)), (.d (.b y12.2))])), (88, (.d (.i .i64 p2.num))), (87, (.ptr 5 1)), (86, (.d (.i .i64 p1.num))), (85, (.ptr 4 1)), (82, (.d (.b (decide (p0 = 11))))), (83, (.d (.b (decide (p0 = 11))))), (67, (.d (.b (decide (p0 = 10))))), (68, (.d (.b (decide (p0 = 10))))), (50, (.d (.b (decide (p0 = 9))))), (51, (.d (.b (decide (p0 = 9))))), (49, (.d (.i .i64 p0))), (47, (.d (.b (if y6 = true then true else y7)))), (46, (.ite (true && (y6 == false)) (.d (.b y7)))), (45, (.ite (true && (y6 == false)) (vGValue p2))), (44, (.d (.b y6))), (43, (.d (.b y6))), (42, (vGValue p1)), (40, (.d (.b (!y5)))), (39, (.d (.b y5))), (38, (vGValue p2)), (37, (vGValue p1)), (36, (.d (.i .i64 p0))), (29, (.d (.b (decide (p0 ≤ 2))))), (28, (.d (.i .i64 p0))), (26, (.d (.b (if (if (!y1) = true then true else (!y2)) = true then true else (!y3))))), (25, (.ite (true && ((if (!y1) = true then true else (!y2)) == false)) (.d (.b (!y3))))), (24, (.ite (true && ((if (!y1) = true then true else (!y2)) == false)) (.d (.b y3)))), (23, (.ite (true && ((if (!y1) = true then true else (!y2)) == false)) (vGValue p2))), (22, (.d (.b (if (!y1) = true then true else (!y2))))), (21, (.d (.b (if (!y1) = true then true else (!y2))))), (20, (.ite (true && ((!y1) == false)) (.d (.b (!y2))))), (19, (.ite (true && ((!y1) == false)) (.d (.b y2)))), (18, (.ite (true && ((!y1) == false)) (vGValue p1))), (17, (.d (.b (!y1)))), (16, (.d (.b (!y1)))), (15, (.d (.b y1))), (14, (.d (.i .i64 p0))), (7, (.d (.i .i64 0))), (6, (.ptr 6 0)), (5, (.ptr 5 0)), (4, (.ptr 4 0)), (0, (.d (.i .i64 p0))), (1, (vGValue p1)), (2, (vGValue p2))], [(6, [(.d (.i .i64 y13.1.kind)), (.d (.i .i64 y13.1.num)), (.d (.s (bs y13.1.text)))]), (5, [(.d (.i .i64 p2.kind)), (.d (.i .i64 p2.num)), (.d (.s (bs p2.text)))]), (4, [(.d (.i .i64 p1.kind)), (.d (.i .i64 p1.num)), (.d (.s (bs p1.text)))])]⟩) (by kernel_rfl) ?_
                refine nil_in ?_
                refine next_in ?_
                refine ret_in ?_
                refine blockK_ret ?_
                refine thenK_ret ?_
                have h := Option.some.inj h; subst h
                exact retn_step (vs := [(vGValue y13.1), (.d (.i .i64 y13.2))]) (by kernel_rfl) (by kernel_rfl)
              · clear h; intro h
                refine seq_in ?_
                refine ops_in ?_
                refine sts_ok 2 (s' := ⟨[(97, (.d (.b (decide (p0 = 12))))), (98, (.d (.b (decide (p0 = 12))))), (82, (.d (.b (decide (p0 = 11))))), (83, (.d (.b (decide (p0 = 11))))), (67, (.d (.b (decide (p0 = 10))))), (68, (.d (.b (decide (p0 = 10))))), (50, (.d (.b (decide (p0 = 9))))), (51, (.d (.b (decide (p0 = 9))))), (49, (.d (.i .i64 p0))), (47, (.d (.b (if y6 = true then true else y7)))), (46, (.ite (true && (y6 == false)) (.d (.b y7)))), (45, (.ite (true && (y6 == false)) (vGValue p2))), (44, (.d (.b y6))), (43, (.d (.b y6))), (42, (vGValue p1)), (40, (.d (.b (!y5)))), (39, (.d (.b y5))), (38, (vGValue p2)), (37, (vGValue p1)), (36, (.d (.i .i64 p0))), (29, (.d (.b (decide (p0 ≤ 2))))), (28, (.d (.i .i64 p0))), (26, (.d (.b (if (if (!y1) = true then true else (!y2)) = true then true else (!y3))))), (25, (.ite (true && ((if (!y1) = true then true else (!y2)) == false)) (.d (.b (!y3))))), (24, (.ite (true && ((if (!y1) = true then true else (!y2)) == false)) (.d (.b y3)))), (23, (.ite (true && ((if (!y1) = true then true else (!y2)) == false)) (vGValue p2))), (22, (.d (.b (if (!y1) = true then true else (!y2))))), (21, (.d (.b (if (!y1) = true then true else (!y2))))), (20, (.ite (true && ((!y1) == false)) (.d (.b (!y2))))), (19, (.ite (true && ((!y1) == false)) (.d (.b y2)))), (18, (.ite (true && ((!y1) == false)) (vGValue p1))), (17, (.d (.b (!y1)))), (16, (.d (.b (!y1)))), (15, (.d (.b y1))), (14, (.d (.i .i64 p0))), (7, (.d (.i .i64 0))), (6, (.ptr 6 0)), (5, (.ptr 5 0)), (4, (.ptr 4 0)), (0, (.d (.i .i64 p0))), (1, (vGValue p1)), (2, (vGValue p2))], [(6, [(.d (.i .i64 0)), (.d (.i .i64 0)), (.d (.s (bs [])))]), (5, [(.d (.i .i64 p2.kind)), (.d (.i .i64 p2.num)), (.d (.s (bs p2.text)))]), (4, [(.d (.i .i64 p1.kind)), (.d (.i .i64 p1.num)), (.d (.s (bs p1.text)))])]⟩) (by kernel_rfl) ?_
                refine nil_in ?_
                refine next_in ?_
                refine cond_step h (by kernel_rfl) ?_ ?_
                · clear h; intro h
                  refine seq_in ?_
                  refine ops_in ?_
                  refine sts_ok 4 (s' := ⟨[(103, (.d (.i .i64 p2.num))), (102, (.ptr 5 1)), (101, (.d (.i .i64 p1.num))), (100, (.ptr 4 1)), (97, (.d (.b (decide (p0 = 12))))), (98, (.d (.b (decide (p0 = 12))))), (82, (.d (.b (decide (p0 = 11))))), (83, (.d (.b (decide (p0 = 11))))), (67, (.d (.b (decide (p0 = 10))))), (68, (.d (.b (decide (p0 = 10))))), (50, (.d (.b (decide (p0 = 9))))), (51, (.d (.b (decide (p0 = 9))))), (49, (.d (.i .i64 p0))), (47, (.d (.b (if y6 = true then true else y7)))), (46, (.ite (true && (y6 == false)) (.d (.b y7)))), (45, (.ite (true && (y6 == false)) (vGValue p2))), (44, (.d (.b y6))), (43, (.d (.b y6))), (42, (vGValue p1)), (40, (.d (.b (!y5)))), (39, (.d (.b y5))), (38, (vGValue p2)), (37, (vGValue p1)), (36, (.d (.i .i64 p0))), (29, (.d (.b (decide (p0 ≤ 2))))), (28, (.d (.i .i64 p0))), (26, (.d (.b (if (if (!y1) = true then true else (!y2)) = true then true else (!y3))))), (25, (.ite (true && ((if (!y1) = true then true else (!y2)) == false)) (.d (.b (!y3))))), (24, (.ite (true && ((if (!y1) = true then true else (!y2)) == false)) (.d (.b y3)))), (23, (.ite (true && ((if (!y1) = true then true else (!y2)) == false)) (vGValue p2))), (22, (.d (.b (if (!y1) = true then true else (!y2))))), (21, (.d (.b (if (!y1) = true then true else (!y2))))), (20, (.ite (true && ((!y1) == false)) (.d (.b (!y2))))), (19, (.ite (true && ((!y1) == false)) (.d (.b y2)))), (18, (.ite (true && ((!y1) == false)) (vGValue p1))), (17, (.d (.b (!y1)))), (16, (.d (.b (!y1)))), (15, (.d (.b y1))), (14, (.d (.i .i64 p0))), (7, (.d (.i .i64 0))), (6, (.ptr 6 0)), (5, (.ptr 5 0)), (4, (.ptr 4 0)), (0, (.d (.i .i64 p0))), (1, (vGValue p1)), (2, (vGValue p2))], [(6, [(.d (.i .i64 0)), (.d (.i .i64 0)), (.d (.s (bs [])))]), (5, [(.d (.i .i64 p2.kind)), (.d (.i .i64 p2.num)), (.d (.s (bs p2.text)))]), (4, [(.d (.i .i64 p1.kind)), (.d (.i .i64 p1.num)), (.d (.s (bs p1.text)))])]⟩) (by kernel_rfl) ?_
                  refine call_step (m := sMulNum p1.num p2.num) (args := [(.d (.i .i64 p1.num)), (.d (.i .i64 p2.num))]) (v' := (fun y => (.tup [(.d (.i .i64 y.1)), (.d (.b y.2))]))) h (OK_sMulNum p1.num p2.num) (by kernel_rfl) (by kernel_rfl) (fun _ => rfl) ?_
                  clear h; intro y14 h
                  refine sts_ok 5 (s' := ⟨[(13, (.d (.b y14.2))), (12, (.d (.i .i64 y14.1))), (106, (.d (.b y14.2))), (105, (.d (.i .i64 y14.1))), (99, (.tup [(.d (.i .i64 y14.1)), (.d (.b y14.2))])), (104, (.tup [(.d (.i .i64 y14.1)), (.d (.b y14.2))])), (103, (.d (.i .i64 p2.num))), (102, (.ptr 5 1)), (101, (.d (.i .i64 p1.num))), (100, (.ptr 4 1)), (97, (.d (.b (decide (p0 = 12))))), (98, (.d (.b (decide (p0 = 12))))), (82, (.d (.b (decide (p0 = 11))))), (83, (.d (.b (decide (p0 = 11))))), (67, (.d (.b (decide (p0 = 10))))), (68, (.d (.b (decide (p0 = 10))))), (50, (.d (.b (decide (p0 = 9))))), (51, (.d (.b (decide (p0 = 9))))), (49, (.d (.i .i64 p0))), (47, (.d (.b (if y6 = true then true else y7)))), (46, (.ite (true && (y6 == false)) (.d (.b y7)))), (45, (.ite (true && (y6 == false)) (vGValue p2))), (44, (.d (.b y6))), (43, (.d (.b y6))), (42, (vGValue p1)), (40, (.d (.b (!y5)))), (39, (.d (.b y5))), (38, (vGValue p2)), (37, (vGValue p1)), (36, (.d (.i .i64 p0))), (29, (.d (.b (decide (p0 ≤ 2))))), (28, (.d (.i .i64 p0))), (26, (.d (.b (if (if (!y1) = true then true else (!y2)) = true then true else (!y3))))), (25, (.ite (true && ((if (!y1) = true then true else (!y2)) == false)) (.d (.b (!y3))))), (24, (.ite (true && ((if (!y1) = true then true else (!y2)) == false)) (.d (.b y3)))), (23, (.ite (true && ((if (!y1) = true then true else (!y2)) == false)) (vGValue p2))), (22, (.d (.b (if (!y1) = true then true else (!y2))))), (21, (.d (.b (if (!y1) = true then true else (!y2))))), (20, (.ite (true && ((!y1) == false)) (.d (.b (!y2))))), (19, (.ite (true && ((!y1) == false)) (.d (.b y2)))), (18, (.ite (true && ((!y1) == false)) (vGValue p1))), (17, (.d (.b (!y1)))), (16, (.d (.b (!y1)))), (15, (.d (.b y1))), (14, (.d (.i .i64 p0))), (7, (.d (.i .i64 0))), (6, (.ptr 6 0)), (5, (.ptr 5 0)), (4, (.ptr 4 0)), (0, (.d (.i .i64 p0))), (1, (vGValue p1)), (2, (vGValue p2))], [(6, [(.d (.i .i64 0)), (.d (.i .i64 0)), (.d (.s (bs [])))]), (5, [(.d (.i .i64 p2.kind)), (.d (.i .i64 p2.num)), (.d (.s (bs p2.text)))]), (4, [(.d (.i .i64 p1.kind)), (.d (.i .i64 p1.num)), (.d (.s (bs p1.text)))])]⟩) (by kernel_rfl) ?_
                  refine nil_in ?_
                  refine next_in ?_
                  refine seq_in ?_
                  refine ops_in ?_
                  refine sts_ok 2 (s' := ⟨[(108, (.d (.b y14.2))), (107, (.d (.i .i64 y14.1))), (13, (.d (.b y14.2))), (12, (.d (.i .i64 y14.1))), (106, (.d (.b y14.2))), (105, (.d (.i .i64 y14.1))), (99, (.tup [(.d (.i .i64 y14.1)), (.d (.b y14.2))])), (104, (.tup [(.d (.i .i64 y14.1)), (.d (.b y14.2))])), (103, (.d (.i .i64 p2.num))), (102, (.ptr 5 1)), (101, (.d (.i .i64 p1.num))), (100, (.ptr 4 1)), (97, (.d (.b (decide (p0 = 12))))), (98, (.d (.b (decide (p0 = 12))))), (82, (.d (.b (decide (p0 = 11))))), (83, (.d (.b (decide (p0 = 11))))), (67, (.d (.b (decide (p0 = 10))))), (68, (.d (.b (decide (p0 = 10))))), (50, (.d (.b (decide (p0 = 9))))), (51, (.d (.b (decide (p0 = 9))))), (49, (.d (.i .i64 p0))), (47, (.d (.b (if y6 = true then true else y7)))), (46, (.ite (true && (y6 == false)) (.d (.b y7)))), (45, (.ite (true && (y6 == false)) (vGValue p2))), (44, (.d (.b y6))), (43, (.d (.b y6))), (42, (vGValue p1)), (40, (.d (.b (!y5)))), (39, (.d (.b y5))), (38, (vGValue p2)), (37, (vGValue p1)), (36, (.d (.i .i64 p0))), (29, (.d (.b (decide (p0 ≤ 2))))), (28, (.d (.i .i64 p0))), (26, (.d (.b (if (if (!y1) = true then true else (!y2)) = true then true else (!y3))))), (25, (.ite (true && ((if (!y1) = true then true else (!y2)) == false)) (.d (.b (!y3))))), (24, (.ite (true && ((if (!y1) = true then true else (!y2)) == false)) (.d (.b y3)))), (23, (.ite (true && ((if (!y1) = true then true else (!y2)) == false)) (vGValue p2))), (22, (.d (.b (if (!y1) = true then true else (!y2))))), (21, (.d (.b (if (!y1) = true then true else (!y2))))), (20, (.ite (true && ((!y1) == false)) (.d (.b (!y2))))), (19, (.ite (true && ((!y1) == false)) (.d (.b y2)))), (18, (.ite (true && ((!y1) == false)) (vGValue p1))), (17, (.d (.b (!y1)))), (16, (.d (.b (!y1)))), (15, (.d (.b y1))), (14, (.d (.i .i64 p0))), (7, (.d (.i .i64 0))), (6, (.ptr 6 0)), (5, (.ptr 5 0)), (4, (.ptr 4 0)), (0, (.d (.i .i64 p0))), (1, (vGValue p1)), (2, (vGValue p2))], [(6, [(.d (.i .i64 0)), (.d (.i .i64 0)), (.d (.s (bs [])))]), (5, [(.d (.i .i64 p2.kind)), (.d (.i .i64 p2.num)), (.d (.s (bs p2.text)))]), (4, [(.d (.i .i64 p1.kind)), (.d (.i .i64 p1.num)), (.d (.s (bs p1.text)))])]⟩) (by kernel_rfl) ?_
                  refine call_step (m := sL6Num y14.1 y14.2) (args := [(.d (.i .i64 y14.1)), (.d (.b y14.2))]) (v' := (fun y => (.tup [(vGValue y.1), (.d (.i .i64 y.2))]))) h (OK_sL6Num y14.1 y14.2) (by kernel_rfl) (by kernel_rfl) (fun _ => rfl) ?_
                  clear h; intro y15 h
                  refine sts_ok 4 (s' := ⟨[(7, (.d (.i .i64 y15.2))), (111, (.d (.i .i64 y15.2))), (110, (vGValue y15.1)), (109, (.tup [(vGValue y15.1), (.d (.i .i64 y15.2))])), (108, (.d (.b y14.2))), (107, (.d (.i .i64 y14.1))), (13, (.d (.b y14.2))), (12, (.d (.i .i64 y14.1))), (106, (.d (.b y14.2))), (105, (.d (.i .i64 y14.1))), (99, (.tup [(.d (.i .i64 y14.1)), (.d (.b y14.2))])), (104, (.tup [(.d (.i .i64 y14.1)), (.d (.b y14.2))])), (103, (.d (.i .i64 p2.num))), (102, (.ptr 5 1)), (101, (.d (.i .i64 p1.num))), (100, (.ptr 4 1)), (97, (.d (.b (decide (p0 = 12))))), (98, (.d (.b (decide (p0 = 12))))), (82, (.d (.b (decide (p0 = 11))))), (83, (.d (.b (decide (p0 = 11))))), (67, (.d (.b (decide (p0 = 10))))), (68, (.d (.b (decide (p0 = 10))))), (50, (.d (.b (decide (p0 = 9))))), (51, (.d (.b (decide (p0 = 9))))), (49, (.d (.i .i64 p0))), (47, (.d (.b (if y6 = true then true else y7)))), (46, (.ite (true && (y6 == false)) (.d (.b y7)))), (45, (.ite (true && (y6 == false)) (vGValue p2))), (44, (.d (.b y6))), (43, (.d (.b y6))), (42, (vGValue p1)), (40, (.d (.b (!y5)))), (39, (.d (.b y5))), (38, (vGValue p2)), (37, (vGValue p1)), (36, (.d (.i .i64 p0))), (29, (.d (.b (decide (p0 ≤ 2))))), (28, (.d (.i .i64 p0))), (26, (.d (.b (if (if (!y1) = true then true else (!y2)) = true then true else (!y3))))), (25, (.ite (true && ((if (!y1) = true then true else (!y2)) == false)) (.d (.b (!y3))))), (24, (.ite (true && ((if (!y1) = true then true else (!y2)) == false)) (.d (.b y3)))), (23, (.ite (true && ((if (!y1) = true then true else (!y2)) == false)) (vGValue p2))), (22, (.d (.b (if (!y1) = true then true else (!y2))))), (21, (.d (.b (if (!y1) = true then true else (!y2))))), (20, (.ite (true && ((!y1) == false)) (.d (.b (!y2))))), (19, (.ite (true && ((!y1) == false)) (.d (.b y2)))), (18, (.ite (true && ((!y1) == false)) (vGValue p1))), (17, (.d (.b (!y1)))), (16, (.d (.b (!y1)))), (15, (.d (.b y1))), (14, (.d (.i .i64 p0))), (7, (.d (.i .i64 0))), (6, (.ptr 6 0)), (5, (.ptr 5 0)), (4, (.ptr 4 0)), (0, (.d (.i .i64 p0))), (1, (vGValue p1)), (2, (vGValue p2))], [(6, [(.d (.i .i64 y15.1.kind)), (.d (.i .i64 y15.1.num)), (.d (.s (bs y15.1.text)))]), (5, [(.d (.i .i64 p2.kind)), (.d (.i .i64 p2.num)), (.d (.s (bs p2.text)))]), (4, [(.d (.i .i64 p1.kind)), (.d (.i .i64 p1.num)), (.d (.s (bs p1.text)))])]⟩) (by kernel_rfl) ?_
                  refine nil_in ?_
                  refine next_in ?_
                  refine ret_in ?_
                  refine blockK_ret ?_
                  refine thenK_ret ?_
                  have h := Option.some.inj h; subst h
                  exact retn_step (vs := [(vGValue y15.1), (.d (.i .i64 y15.2))]) (by kernel_rfl) (by kernel_rfl)
                · clear h; intro h
                  refine seq_in ?_
                  refine seq_in ?_
                  refine ops_in ?_
                  refine sts_ok 2 (s' := ⟨[(112, (.d (.b (decide (p0 = 13))))), (113, (.d (.b (decide (p0 = 13))))), (97, (.d (.b (decide (p0 = 12))))), (98, (.d (.b (decide (p0 = 12))))), (82, (.d (.b (decide (p0 = 11))))), (83, (.d (.b (decide (p0 = 11))))), (67, (.d (.b (decide (p0 = 10))))), (68, (.d (.b (decide (p0 = 10))))), (50, (.d (.b (decide (p0 = 9))))), (51, (.d (.b (decide (p0 = 9))))), (49, (.d (.i .i64 p0))), (47, (.d (.b (if y6 = true then true else y7)))), (46, (.ite (true && (y6 == false)) (.d (.b y7)))), (45, (.ite (true && (y6 == false)) (vGValue p2))), (44, (.d (.b y6))), (43, (.d (.b y6))), (42, (vGValue p1)), (40, (.d (.b (!y5)))), (39, (.d (.b y5))), (38, (vGValue p2)), (37, (vGValue p1)), (36, (.d (.i .i64 p0))), (29, (.d (.b (decide (p0 ≤ 2))))), (28, (.d (.i .i64 p0))), (26, (.d (.b (if (if (!y1) = true then true else (!y2)) = true then true else (!y3))))), (25, (.ite (true && ((if (!y1) = true then true else (!y2)) == false)) (.d (.b (!y3))))), (24, (.ite (true && ((if (!y1) = true then true else (!y2)) == false)) (.d (.b y3)))), (23, (.ite (true && ((if (!y1) = true then true else (!y2)) == false)) (vGValue p2))), (22, (.d (.b (if (!y1) = true then true else (!y2))))), (21, (.d (.b (if (!y1) = true then true else (!y2))))), (20, (.ite (true && ((!y1) == false)) (.d (.b (!y2))))), (19, (.ite (true && ((!y1) == false)) (.d (.b y2)))), (18, (.ite (true && ((!y1) == false)) (vGValue p1))), (17, (.d (.b (!y1)))), (16, (.d (.b (!y1)))), (15, (.d (.b y1))), (14, (.d (.i .i64 p0))), (7, (.d (.i .i64 0))), (6, (.ptr 6 0)), (5, (.ptr 5 0)), (4, (.ptr 4 0)), (0, (.d (.i .i64 p0))), (1, (vGValue p1)), (2, (vGValue p2))], [(6, [(.d (.i .i64 0)), (.d (.i .i64 0)), (.d (.s (bs [])))]), (5, [(.d (.i .i64 p2.kind)), (.d (.i .i64 p2.num)), (.d (.s (bs p2.text)))]), (4, [(.d (.i .i64 p1.kind)), (.d (.i .i64 p1.num)), (.d (.s (bs p1.text)))])]⟩) (by kernel_rfl) ?_
                  refine nil_in ?_
                  refine next_in ?_
                  refine cond_step h (by kernel_rfl) ?_ ?_
                  · clear h; intro h
                    refine skip_in ?_
                    exact next_step (s' := stsCalc_J0 p0 p1 p2 (decide (p0 = 13))) (wk_ren [] (by kernel_rfl) (er_cons (vr_same (by kernel_rfl) (by kernel_rfl)) (er_cons (vr_same (by kernel_rfl) (by kernel_rfl)) (er_cons (vr_same (by kernel_rfl) (by kernel_rfl)) (er_cons (vr_same (by kernel_rfl) (by kernel_rfl)) (er_cons (vr_same (by kernel_rfl) (by kernel_rfl)) (er_nil)))))) (br_same (by kernel_rfl) (by kernel_rfl) (br_same (by kernel_rfl) (by kernel_rfl) (br_same (by kernel_rfl) (by kernel_rfl) (br_nil))))) (OK_sCalc_J0 p0 p1 p2 (decide (p0 = 13)) _ h)
                  · clear h; intro h
                    refine ops_in ?_
                    refine sts_ok 2 (s' := ⟨[(112, (.d (.b (decide (p0 = 14))))), (114, (.d (.b (decide (p0 = 14))))), (112, (.d (.b (decide (p0 = 13))))), (113, (.d (.b (decide (p0 = 13))))), (97, (.d (.b (decide (p0 = 12))))), (98, (.d (.b (decide (p0 = 12))))), (82, (.d (.b (decide (p0 = 11))))), (83, (.d (.b (decide (p0 = 11))))), (67, (.d (.b (decide (p0 = 10))))), (68, (.d (.b (decide (p0 = 10))))), (50, (.d (.b (decide (p0 = 9))))), (51, (.d (.b (decide (p0 = 9))))), (49, (.d (.i .i64 p0))), (47, (.d (.b (if y6 = true then true else y7)))), (46, (.ite (true && (y6 == false)) (.d (.b y7)))), (45, (.ite (true && (y6 == false)) (vGValue p2))), (44, (.d (.b y6))), (43, (.d (.b y6))), (42, (vGValue p1)), (40, (.d (.b (!y5)))), (39, (.d (.b y5))), (38, (vGValue p2)), (37, (vGValue p1)), (36, (.d (.i .i64 p0))), (29, (.d (.b (decide (p0 ≤ 2))))), (28, (.d (.i .i64 p0))), (26, (.d (.b (if (if (!y1) = true then true else (!y2)) = true then true else (!y3))))), (25, (.ite (true && ((if (!y1) = true then true else (!y2)) == false)) (.d (.b (!y3))))), (24, (.ite (true && ((if (!y1) = true then true else (!y2)) == false)) (.d (.b y3)))), (23, (.ite (true && ((if (!y1) = true then true else (!y2)) == false)) (vGValue p2))), (22, (.d (.b (if (!y1) = true then true else (!y2))))), (21, (.d (.b (if (!y1) = true then true else (!y2))))), (20, (.ite (true && ((!y1) == false)) (.d (.b (!y2))))), (19, (.ite (true && ((!y1) == false)) (.d (.b y2)))), (18, (.ite (true && ((!y1) == false)) (vGValue p1))), (17, (.d (.b (!y1)))), (16, (.d (.b (!y1)))), (15, (.d (.b y1))), (14, (.d (.i .i64 p0))), (7, (.d (.i .i64 0))), (6, (.ptr 6 0)), (5, (.ptr 5 0)), (4, (.ptr 4 0)), (0, (.d (.i .i64 p0))), (1, (vGValue p1)), (2, (vGValue p2))], [(6, [(.d (.i .i64 0)), (.d (.i .i64 0)), (.d (.s (bs [])))]), (5, [(.d (.i .i64 p2.kind)), (.d (.i .i64 p2.num)), (.d (.s (bs p2.text)))]), (4, [(.d (.i .i64 p1.kind)), (.d (.i .i64 p1.num)), (.d (.s (bs p1.text)))])]⟩) (by kernel_rfl) ?_
                    refine nil_in ?_
                    exact next_step (s' := stsCalc_J0 p0 p1 p2 (decide (p0 = 14))) (wk_ren [] (by kernel_rfl) (er_cons (vr_same (by kernel_rfl) (by kernel_rfl)) (er_cons (vr_same (by kernel_rfl) (by kernel_rfl)) (er_cons (vr_same (by kernel_rfl) (by kernel_rfl)) (er_cons (vr_same (by kernel_rfl) (by kernel_rfl)) (er_cons (vr_same (by kernel_rfl) (by kernel_rfl)) (er_nil)))))) (br_same (by kernel_rfl) (by kernel_rfl) (br_same (by kernel_rfl) (by kernel_rfl) (br_same (by kernel_rfl) (by kernel_rfl) (br_nil))))) (OK_sCalc_J0 p0 p1 p2 (decide (p0 = 14)) _ h)
theorem OKs_sWithin_L0 (p1 : (List GValue)) (p0 : GValue) : (∀ (x7 : Int) (b6_0 : Int) (b6_1 : Int) (b6_2 : (List UInt8)) (r : GValue × Int), sWithin_L0 p1 p0 x7 b6_0 b6_1 b6_2 = some r → avc Try.prog acsWithin_L0 (qsWithin_1 r) (stsWithin_L0 p1 p0 x7 b6_0 b6_1 b6_2)) := by
  refine sWithin_L0.partial_correctness p1 p0 (fun x7 b6_0 b6_1 b6_2 r => avc Try.prog acsWithin_L0 (qsWithin_1 r) (stsWithin_L0 p1 p0 x7 b6_0 b6_1 b6_2)) ?_
  · intro F_sWithin_L0 OK_sWithin_L0 x7 b6_0 b6_1 b6_2 r h
    delta acsWithin_L0
    refine loop_unroll ?_
    refine seq_in ?_
    refine seq_in ?_
    refine ops_in ?_
    refine sts_ok 2 (s' := ⟨(12, (.d (.sl 3 (p1.map cGValue)))) :: (11, (.d (.i .i64 x7))) :: (stsWithin_L0 p1 p0 x7 b6_0 b6_1 b6_2).env, (stsWithin_L0 p1 p0 x7 b6_0 b6_1 b6_2).bx⟩) (by kernel_rfl) ?_
    refine p_step (v' := (.d (.i .i64 (p1.length : Int)))) rfl rfl (vop_len (sz := 3) (l := p1) (f := cGValue) (by kernel_rfl) (by kernel_rfl)) ?_
    refine sts_ok 1 (s' := ⟨(14, (.d (.b (decide (x7 < (p1.length : Int)))))) :: (13, (.d (.i .i64 (p1.length : Int)))) :: (12, (.d (.sl 3 (p1.map cGValue)))) :: (11, (.d (.i .i64 x7))) :: (stsWithin_L0 p1 p0 x7 b6_0 b6_1 b6_2).env, (stsWithin_L0 p1 p0 x7 b6_0 b6_1 b6_2).bx⟩) (by kernel_rfl) ?_
    refine nil_in ?_
    refine next_in ?_
    refine cond_step h (by kernel_rfl) ?_ ?_
    · clear h; intro h
      refine skip_in ?_
      refine next_in ?_
      refine seq_in ?_
      refine block_in ?_
      refine seq_in ?_
      refine dops_in ?_
      refine dsts_ok 3 (s' := ⟨(20, (.d (.i .i64 x7))) :: (19, (.d (.sl 3 (p1.map cGValue)))) :: (18, (vGValue p0)) :: (14, (.d (.b (decide (x7 < (p1.length : Int)))))) :: (13, (.d (.i .i64 (p1.length : Int)))) :: (12, (.d (.sl 3 (p1.map cGValue)))) :: (11, (.d (.i .i64 x7))) :: (stsWithin_L0 p1 p0 x7 b6_0 b6_1 b6_2).env, (stsWithin_L0 p1 p0 x7 b6_0 b6_1 b6_2).bx⟩) (by kernel_rfl) ?_
      refine dv_step (m := idx p1 x7) (v' := fun y => (.rp [(.i .i64 y.kind), (.i .i64 y.num), (.s (bs y.text))])) h rfl rfl (fun y hy => vop_ia (l := p1) (f := cGValue) (g := cGValue) (k := .i64) hy (fun _ => rfl) (by kernel_rfl) (by kernel_rfl) (by kernel_rfl)) ?_
      clear h; intro y2 h
      refine dsts_ok 1 (s' := ⟨(22, (vGValue y2)) :: (21, (.rp [(.i .i64 y2.kind), (.i .i64 y2.num), (.s (bs y2.text))])) :: (20, (.d (.i .i64 x7))) :: (19, (.d (.sl 3 (p1.map cGValue)))) :: (18, (vGValue p0)) :: (14, (.d (.b (decide (x7 < (p1.length : Int)))))) :: (13, (.d (.i .i64 (p1.length : Int)))) :: (12, (.d (.sl 3 (p1.map cGValue)))) :: (11, (.d (.i .i64 x7))) :: (stsWithin_L0 p1 p0 x7 b6_0 b6_1 b6_2).env, (stsWithin_L0 p1 p0 x7 b6_0 b6_1 b6_2).bx⟩) (by kernel_rfl) ?_
      refine dcall_step (m := sCalc 3 p0 y2) (args := [(.d (.i .i64 3)), (vGValue p0), (vGValue y2)]) (v' := (fun y => (.tup [(vGValue y.1), (.d (.i .i64 y.2))]))) h (OK_sCalc 3 p0 y2) (by kernel_rfl) (by kernel_rfl) (fun _ => rfl) ?_
      clear h; intro y3 h
      refine dsts_ok 6 (s' := ⟨(9, (.d (.i .i64 y3.2))) :: (8, (.ptr 8 0)) :: (25, (.d (.i .i64 y3.2))) :: (24, (vGValue y3.1)) :: (17, (.tup [(vGValue y3.1), (.d (.i .i64 y3.2))])) :: (23, (.tup [(vGValue y3.1), (.d (.i .i64 y3.2))])) :: (22, (vGValue y2)) :: (21, (.rp [(.i .i64 y2.kind), (.i .i64 y2.num), (.s (bs y2.text))])) :: (20, (.d (.i .i64 x7))) :: (19, (.d (.sl 3 (p1.map cGValue)))) :: (18, (vGValue p0)) :: (14, (.d (.b (decide (x7 < (p1.length : Int)))))) :: (13, (.d (.i .i64 (p1.length : Int)))) :: (12, (.d (.sl 3 (p1.map cGValue)))) :: (11, (.d (.i .i64 x7))) :: (stsWithin_L0 p1 p0 x7 b6_0 b6_1 b6_2).env, [(8, [(.d (.i .i64 y3.1.kind)), (.d (.i .i64 y3.1.num)), (.d (.s (bs y3.1.text)))]), (2, [(.d (.i .i64 p0.kind)), (.d (.i .i64 p0.num)), (.d (.s (bs p0.text)))]), (4, [(.d (.i .i64 0)), (.d (.i .i64 0)), (.d (.s (bs [])))]), (6, [(.d (.i .i64 b6_0)), (.d (.i .i64 b6_1)), (.d (.s (bs b6_2)))])]⟩) (by kernel_rfl) ?_
      refine dnil_in (by kernel_rfl) (by kernel_rfl) ?_
      refine next_in ?_
      refine seq_in ?_
      refine seq_in ?_
      refine ops_in ?_
      refine sts_ok 2 (s' := ⟨(27, (.d (.b (!decide (y3.2 = 0))))) :: (26, (.d (.i .i64 y3.2))) :: (9, (.d (.i .i64 y3.2))) :: (8, (.ptr 8 0)) :: (25, (.d (.i .i64 y3.2))) :: (24, (vGValue y3.1)) :: (17, (.tup [(vGValue y3.1), (.d (.i .i64 y3.2))])) :: (23, (.tup [(vGValue y3.1), (.d (.i .i64 y3.2))])) :: (22, (vGValue y2)) :: (21, (.rp [(.i .i64 y2.kind), (.i .i64 y2.num), (.s (bs y2.text))])) :: (20, (.d (.i .i64 x7))) :: (19, (.d (.sl 3 (p1.map cGValue)))) :: (18, (vGValue p0)) :: (14, (.d (.b (decide (x7 < (p1.length : Int)))))) :: (13, (.d (.i .i64 (p1.length : Int)))) :: (12, (.d (.sl 3 (p1.map cGValue)))) :: (11, (.d (.i .i64 x7))) :: (stsWithin_L0 p1 p0 x7 b6_0 b6_1 b6_2).env, [(8, [(.d (.i .i64 y3.1.kind)), (.d (.i .i64 y3.1.num)), (.d (.s (bs y3.1.text)))]), (2, [(.d (.i .i64 p0.kind)), (.d (.i .i64 p0.num)), (.d (.s (bs p0.text)))]), (4, [(.d (.i .i64 0)), (.d (.i .i64 0)), (.d (.s (bs [])))]), (6, [(.d (.i .i64 b6_0)), (.d (.i .i64 b6_1)), (.d (.s (bs b6_2)))])]⟩) (by kernel_rfl) ?_
      refine nil_in ?_
      refine next_in ?_
      refine cond_step h (by kernel_rfl) ?_ ?_
      · clear h; intro h
        refine seq_in ?_
        refine ops_in ?_
        refine sts_ok 4 (s' := ⟨(5, (.d (.i .i64 y3.2))) :: (29, (.d (.i .i64 y3.2))) :: (28, (vGValue (GValue.mk 0 0 []))) :: (27, (.d (.b (!decide (y3.2 = 0))))) :: (26, (.d (.i .i64 y3.2))) :: (9, (.d (.i .i64 y3.2))) :: (8, (.ptr 8 0)) :: (25, (.d (.i .i64 y3.2))) :: (24, (vGValue y3.1)) :: (17, (.tup [(vGValue y3.1), (.d (.i .i64 y3.2))])) :: (23, (.tup [(vGValue y3.1), (.d (.i .i64 y3.2))])) :: (22, (vGValue y2)) :: (21, (.rp [(.i .i64 y2.kind), (.i .i64 y2.num), (.s (bs y2.text))])) :: (20, (.d (.i .i64 x7))) :: (19, (.d (.sl 3 (p1.map cGValue)))) :: (18, (vGValue p0)) :: (14, (.d (.b (decide (x7 < (p1.length : Int)))))) :: (13, (.d (.i .i64 (p1.length : Int)))) :: (12, (.d (.sl 3 (p1.map cGValue)))) :: (11, (.d (.i .i64 x7))) :: (stsWithin_L0 p1 p0 x7 b6_0 b6_1 b6_2).env, [(8, [(.d (.i .i64 y3.1.kind)), (.d (.i .i64 y3.1.num)), (.d (.s (bs y3.1.text)))]), (2, [(.d (.i .i64 p0.kind)), (.d (.i .i64 p0.num)), (.d (.s (bs p0.text)))]), (4, [(.d (.i .i64 0)), (.d (.i .i64 0)), (.d (.s (bs [])))]), (6, [(.d (.i .i64 b6_0)), (.d (.i .i64 b6_1)), (.d (.s (bs b6_2)))])]⟩) (by kernel_rfl) ?_
        refine nil_in ?_
        refine next_in ?_
        refine ret_in ?_
        refine thenK_ret ?_
        refine blockK_ret ?_
        refine thenK_ret ?_
        refine thenK_ret ?_
        refine blockK_ret ?_
        refine thenK_ret ?_
        have h := Option.some.inj h; subst h
        exact retn_step (vs := [(vGValue (GValue.mk 0 0 [])), (.d (.i .i64 y3.2))]) (by kernel_rfl) (by kernel_rfl)
      · clear h; intro h
        refine skip_in ?_
        refine next_in ?_
        refine ops_in ?_
        refine sts_ok 2 (s' := ⟨(32, (vGValue y3.1)) :: (31, (vGValue (GValue.mk b6_0 b6_1 b6_2))) :: (27, (.d (.b (!decide (y3.2 = 0))))) :: (26, (.d (.i .i64 y3.2))) :: (9, (.d (.i .i64 y3.2))) :: (8, (.ptr 8 0)) :: (25, (.d (.i .i64 y3.2))) :: (24, (vGValue y3.1)) :: (17, (.tup [(vGValue y3.1), (.d (.i .i64 y3.2))])) :: (23, (.tup [(vGValue y3.1), (.d (.i .i64 y3.2))])) :: (22, (vGValue y2)) :: (21, (.rp [(.i .i64 y2.kind), (.i .i64 y2.num), (.s (bs y2.text))])) :: (20, (.d (.i .i64 x7))) :: (19, (.d (.sl 3 (p1.map cGValue)))) :: (18, (vGValue p0)) :: (14, (.d (.b (decide (x7 < (p1.length : Int)))))) :: (13, (.d (.i .i64 (p1.length : Int)))) :: (12, (.d (.sl 3 (p1.map cGValue)))) :: (11, (.d (.i .i64 x7))) :: (stsWithin_L0 p1 p0 x7 b6_0 b6_1 b6_2).env, [(8, [(.d (.i .i64 y3.1.kind)), (.d (.i .i64 y3.1.num)), (.d (.s (bs y3.1.text)))]), (2, [(.d (.i .i64 p0.kind)), (.d (.i .i64 p0.num)), (.d (.s (bs p0.text)))]), (4, [(.d (.i .i64 0)), (.d (.i .i64 0)), (.d (.s (bs [])))]), (6, [(.d (.i .i64 b6_0)), (.d (.i .i64 b6_1)), (.d (.s (bs b6_2)))])]⟩) (by kernel_rfl) ?_
        refine call_step (m := sCalc 1 (GValue.mk b6_0 b6_1 b6_2) y3.1) (args := [(.d (.i .i64 1)), (vGValue (GValue.mk b6_0 b6_1 b6_2)), (vGValue y3.1)]) (v' := (fun y => (.tup [(vGValue y.1), (.d (.i .i64 y.2))]))) h (OK_sCalc 1 (GValue.mk b6_0 b6_1 b6_2) y3.1) (by kernel_rfl) (by kernel_rfl) (fun _ => rfl) ?_
        clear h; intro y4 h
        refine sts_ok 4 (s' := ⟨(35, (.d (.i .i64 y4.2))) :: (34, (vGValue y4.1)) :: (30, (.tup [(vGValue y4.1), (.d (.i .i64 y4.2))])) :: (33, (.tup [(vGValue y4.1), (.d (.i .i64 y4.2))])) :: (32, (vGValue y3.1)) :: (31, (vGValue (GValue.mk b6_0 b6_1 b6_2))) :: (27, (.d (.b (!decide (y3.2 = 0))))) :: (26, (.d (.i .i64 y3.2))) :: (9, (.d (.i .i64 y3.2))) :: (8, (.ptr 8 0)) :: (25, (.d (.i .i64 y3.2))) :: (24, (vGValue y3.1)) :: (17, (.tup [(vGValue y3.1), (.d (.i .i64 y3.2))])) :: (23, (.tup [(vGValue y3.1), (.d (.i .i64 y3.2))])) :: (22, (vGValue y2)) :: (21, (.rp [(.i .i64 y2.kind), (.i .i64 y2.num), (.s (bs y2.text))])) :: (20, (.d (.i .i64 x7))) :: (19, (.d (.sl 3 (p1.map cGValue)))) :: (18, (vGValue p0)) :: (14, (.d (.b (decide (x7 < (p1.length : Int)))))) :: (13, (.d (.i .i64 (p1.length : Int)))) :: (12, (.d (.sl 3 (p1.map cGValue)))) :: (11, (.d (.i .i64 x7))) :: (stsWithin_L0 p1 p0 x7 b6_0 b6_1 b6_2).env, [(8, [(.d (.i .i64 y3.1.kind)), (.d (.i .i64 y3.1.num)), (.d (.s (bs y3.1.text)))]), (2, [(.d (.i .i64 p0.kind)), (.d (.i .i64 p0.num)), (.d (.s (bs p0.text)))]), (4, [(.d (.i .i64 0)), (.d (.i .i64 0)), (.d (.s (bs [])))]), (6, [(.d (.i .i64 y4.1.kind)), (.d (.i .i64 y4.1.num)), (.d (.s (bs y4.1.text)))])]⟩) (by kernel_rfl) ?_
        refine nil_in ?_
        refine blockK_norm ?_
        refine next_in ?_
        refine ops_in ?_
        refine sts_ok 3 (s' := ⟨(7, (.d (.i .i64 (IntKind.wrap .i64 (x7 + 1))))) :: (16, (.d (.i .i64 (IntKind.wrap .i64 (x7 + 1))))) :: (15, (.d (.i .i64 x7))) :: (35, (.d (.i .i64 y4.2))) :: (34, (vGValue y4.1)) :: (30, (.tup [(vGValue y4.1), (.d (.i .i64 y4.2))])) :: (33, (.tup [(vGValue y4.1), (.d (.i .i64 y4.2))])) :: (32, (vGValue y3.1)) :: (31, (vGValue (GValue.mk b6_0 b6_1 b6_2))) :: (27, (.d (.b (!decide (y3.2 = 0))))) :: (26, (.d (.i .i64 y3.2))) :: (9, (.d (.i .i64 y3.2))) :: (8, (.ptr 8 0)) :: (25, (.d (.i .i64 y3.2))) :: (24, (vGValue y3.1)) :: (17, (.tup [(vGValue y3.1), (.d (.i .i64 y3.2))])) :: (23, (.tup [(vGValue y3.1), (.d (.i .i64 y3.2))])) :: (22, (vGValue y2)) :: (21, (.rp [(.i .i64 y2.kind), (.i .i64 y2.num), (.s (bs y2.text))])) :: (20, (.d (.i .i64 x7))) :: (19, (.d (.sl 3 (p1.map cGValue)))) :: (18, (vGValue p0)) :: (14, (.d (.b (decide (x7 < (p1.length : Int)))))) :: (13, (.d (.i .i64 (p1.length : Int)))) :: (12, (.d (.sl 3 (p1.map cGValue)))) :: (11, (.d (.i .i64 x7))) :: (stsWithin_L0 p1 p0 x7 b6_0 b6_1 b6_2).env, [(8, [(.d (.i .i64 y3.1.kind)), (.d (.i .i64 y3.1.num)), (.d (.s (bs y3.1.text)))]), (2, [(.d (.i .i64 p0.kind)), (.d (.i .i64 p0.num)), (.d (.s (bs p0.text)))]), (4, [(.d (.i .i64 0)), (.d (.i .i64 0)), (.d (.s (bs [])))]), (6, [(.d (.i .i64 y4.1.kind)), (.d (.i .i64 y4.1.num)), (.d (.s (bs y4.1.text)))])]⟩) (by kernel_rfl) ?_
        refine nil_in ?_
        exact loop_back (s' := stsWithin_L0 p1 p0 (IntKind.wrap .i64 (x7 + 1)) y4.1.kind y4.1.num y4.1.text) (wk_ren [] (by kernel_rfl) (er_cons (vr_same (by kernel_rfl) (by kernel_rfl)) (er_cons (vr_same (by kernel_rfl) (by kernel_rfl)) (er_cons (vr_same (by kernel_rfl) (by kernel_rfl)) (er_cons (vr_same (by kernel_rfl) (by kernel_rfl)) (er_cons (vr_same (by kernel_rfl) (by kernel_rfl)) (er_nil)))))) (br_same (by kernel_rfl) (by kernel_rfl) (br_same (by kernel_rfl) (by kernel_rfl) (br_same (by kernel_rfl) (by kernel_rfl) (br_nil))))) (OK_sWithin_L0 (IntKind.wrap .i64 (x7 + 1)) y4.1.kind y4.1.num y4.1.text _ h)
    · clear h; intro h
      refine exit_in ?_
      refine thenK_exit ?_
      refine thenK_exit ?_
      refine blockK_here ?_
      refine next_in ?_
      refine seq_in ?_
      refine ops_in ?_
      refine sts_ok 3 (s' := ⟨(5, (.d (.i .i64 0))) :: (36, (vGValue (GValue.mk b6_0 b6_1 b6_2))) :: (14, (.d (.b (decide (x7 < (p1.length : Int)))))) :: (13, (.d (.i .i64 (p1.length : Int)))) :: (12, (.d (.sl 3 (p1.map cGValue)))) :: (11, (.d (.i .i64 x7))) :: (stsWithin_L0 p1 p0 x7 b6_0 b6_1 b6_2).env, [(2, [(.d (.i .i64 p0.kind)), (.d (.i .i64 p0.num)), (.d (.s (bs p0.text)))]), (4, [(.d (.i .i64 b6_0)), (.d (.i .i64 b6_1)), (.d (.s (bs b6_2)))]), (6, [(.d (.i .i64 b6_0)), (.d (.i .i64 b6_1)), (.d (.s (bs b6_2)))])]⟩) (by kernel_rfl) ?_
      refine nil_in ?_
      refine next_in ?_
      refine ret_in ?_
      have h := Option.some.inj h; subst h
      exact retn_step (vs := [(vGValue (GValue.mk b6_0 b6_1 b6_2)), (.d (.i .i64 0))]) (by kernel_rfl) (by kernel_rfl)
theorem OK_sWithin_L0 (p1 : (List GValue)) (p0 : GValue) (x7 : Int) (b6_0 : Int) (b6_1 : Int) (b6_2 : (List UInt8)) (r : GValue × Int) (h : sWithin_L0 p1 p0 x7 b6_0 b6_1 b6_2 = some r) : avc Try.prog acsWithin_L0 (qsWithin_1 r) (stsWithin_L0 p1 p0 x7 b6_0 b6_1 b6_2) := (OKs_sWithin_L0 p1 p0) x7 b6_0 b6_1 b6_2 r h
theorem OK_sWithin (p0 : GValue) (p1 : (List GValue)) : FOk Try.prog 31 [(vGValue p0), (.d (.sl 3 (p1.map cGValue)))] (fun y => (.tup [(vGValue y.1), (.d (.i .i64 y.2))])) (sWithin p0 p1) := by
  intro r h
  rw [sWithin] at h
  refine acalls_of_fn trsWithin (Nat.le_of_ble_eq_true rfl) (by simp) ?_
  show avc Try.prog acsWithin (qsWithin _) ⟨[(0, (vGValue p0)), (1, (.d (.sl 3 (p1.map cGValue))))], []⟩
  delta acsWithin
  refine seq_in ?_
  refine ops_in ?_
  refine sts_ok 3 (s' := ⟨[(5, (.d (.i .i64 0))), (4, (.ptr 4 0)), (2, (.ptr 2 0)), (0, (vGValue p0)), (1, (.d (.sl 3 (p1.map cGValue))))], [(4, [(.d (.i .i64 0)), (.d (.i .i64 0)), (.d (.s (bs [])))]), (2, [(.d (.i .i64 p0.kind)), (.d (.i .i64 p0.num)), (.d (.s (bs p0.text)))])]⟩) (by kernel_rfl) ?_
  refine nil_in ?_
  refine next_in ?_
  refine seq_in ?_
  refine ops_in ?_
  refine call_step (m := sBoolValue false) (args := [(.d (.b false))]) (v' := (fun y => (vGValue y))) h (OK_sBoolValue false) (by kernel_rfl) (by kernel_rfl) (fun _ => rfl) ?_
  clear h; intro y1 h
  refine sts_ok 2 (s' := ⟨[(6, (.ptr 6 0)), (10, (vGValue y1)), (5, (.d (.i .i64 0))), (4, (.ptr 4 0)), (2, (.ptr 2 0)), (0, (vGValue p0)), (1, (.d (.sl 3 (p1.map cGValue))))], [(6, [(.d (.i .i64 y1.kind)), (.d (.i .i64 y1.num)), (.d (.s (bs y1.text)))]), (4, [(.d (.i .i64 0)), (.d (.i .i64 0)), (.d (.s (bs [])))]), (2, [(.d (.i .i64 p0.kind)), (.d (.i .i64 p0.num)), (.d (.s (bs p0.text)))])]⟩) (by kernel_rfl) ?_
  refine nil_in ?_
  refine next_in ?_
  refine seq_in ?_
  refine seq_in ?_
  refine ops_in ?_
  refine sts_ok 1 (s' := ⟨[(7, (.d (.i .i64 0))), (6, (.ptr 6 0)), (10, (vGValue y1)), (5, (.d (.i .i64 0))), (4, (.ptr 4 0)), (2, (.ptr 2 0)), (0, (vGValue p0)), (1, (.d (.sl 3 (p1.map cGValue))))], [(6, [(.d (.i .i64 y1.kind)), (.d (.i .i64 y1.num)), (.d (.s (bs y1.text)))]), (4, [(.d (.i .i64 0)), (.d (.i .i64 0)), (.d (.s (bs [])))]), (2, [(.d (.i .i64 p0.kind)), (.d (.i .i64 p0.num)), (.d (.s (bs p0.text)))])]⟩) (by kernel_rfl) ?_
  refine nil_in ?_
  refine next_in ?_
  refine block_in ?_
  exact loop_go (s' := stsWithin_L0 p1 p0 0 y1.kind y1.num y1.text) (wk_ren [] (by kernel_rfl) (er_cons (vr_same (by kernel_rfl) (by kernel_rfl)) (er_cons (vr_same (by kernel_rfl) (by kernel_rfl)) (er_cons (vr_same (by kernel_rfl) (by kernel_rfl)) (er_cons (vr_same (by kernel_rfl) (by kernel_rfl)) (er_cons (vr_same (by kernel_rfl) (by kernel_rfl)) (er_nil)))))) (br_same (by kernel_rfl) (by kernel_rfl) (br_same (by kernel_rfl) (by kernel_rfl) (br_same (by kernel_rfl) (by kernel_rfl) (br_nil))))) (OK_sWithin_L0 p1 p0 0 y1.kind y1.num y1.text _ h)
theorem OK_wEqValue (p0 : GValue) (p1 : GValue) : FOk Try.prog 25 [(vGValue p0), (vGValue p1)] (fun y => (.d (.b y))) (wEqValue p0 p1) := by
  intro r h
  rw [wEqValue] at h
  refine acalls_of_fn trwEqValue (Nat.le_of_ble_eq_true rfl) (by simp) ?_
  show avc Try.prog acwEqValue (qwEqValue _) ⟨[(0, (vGValue p0)), (1, (vGValue p1))], []⟩
  delta acwEqValue
  refine seq_in ?_
  refine ops_in ?_
  refine sts_ok 3 (s' := ⟨[(4, (.d (.b false))), (3, (.ptr 3 0)), (2, (.ptr 2 0)), (0, (vGValue p0)), (1, (vGValue p1))], [(3, [(.d (.i .i64 p1.kind)), (.d (.i .i64 p1.num)), (.d (.s (bs p1.text)))]), (2, [(.d (.i .i64 p0.kind)), (.d (.i .i64 p0.num)), (.d (.s (bs p0.text)))])]⟩) (by kernel_rfl) ?_
  refine nil_in ?_
  refine next_in ?_
  refine seq_in ?_
  refine seq_in ?_
  refine ops_in ?_
  refine sts_ok 5 (s' := ⟨[(9, (.d (.b (!decide (p0.kind = p1.kind))))), (8, (.d (.i .i64 p1.kind))), (7, (.ptr 3 0)), (6, (.d (.i .i64 p0.kind))), (5, (.ptr 2 0)), (4, (.d (.b false))), (3, (.ptr 3 0)), (2, (.ptr 2 0)), (0, (vGValue p0)), (1, (vGValue p1))], [(3, [(.d (.i .i64 p1.kind)), (.d (.i .i64 p1.num)), (.d (.s (bs p1.text)))]), (2, [(.d (.i .i64 p0.kind)), (.d (.i .i64 p0.num)), (.d (.s (bs p0.text)))])]⟩) (by kernel_rfl) ?_
  refine nil_in ?_
  refine next_in ?_
  refine cond_step h (by kernel_rfl) ?_ ?_
  · clear h; intro h
    refine seq_in ?_
    refine ops_in ?_
    refine sts_ok 1 (s' := ⟨[(4, (.d (.b false))), (9, (.d (.b (!decide (p0.kind = p1.kind))))), (8, (.d (.i .i64 p1.kind))), (7, (.ptr 3 0)), (6, (.d (.i .i64 p0.kind))), (5, (.ptr 2 0)), (4, (.d (.b false))), (3, (.ptr 3 0)), (2, (.ptr 2 0)), (0, (vGValue p0)), (1, (vGValue p1))], [(3, [(.d (.i .i64 p1.kind)), (.d (.i .i64 p1.num)), (.d (.s (bs p1.text)))]), (2, [(.d (.i .i64 p0.kind)), (.d (.i .i64 p0.num)), (.d (.s (bs p0.text)))])]⟩) (by kernel_rfl) ?_
    refine nil_in ?_
    refine next_in ?_
    refine ret_in ?_
    refine thenK_ret ?_
    have h := Option.some.inj h; subst h
    exact ret1_step (v := (.d (.b false))) (by kernel_rfl) (by kernel_rfl) (by kernel_rfl)
  · clear h; intro h
    refine skip_in ?_
    refine next_in ?_
    refine seq_in ?_
    refine seq_in ?_
    refine ops_in ?_
    refine sts_ok 5 (s' := ⟨[(14, (.d (.b (!decide (p0.num = p1.num))))), (13, (.d (.i .i64 p1.num))), (12, (.ptr 3 1)), (11, (.d (.i .i64 p0.num))), (10, (.ptr 2 1)), (9, (.d (.b (!decide (p0.kind = p1.kind))))), (8, (.d (.i .i64 p1.kind))), (7, (.ptr 3 0)), (6, (.d (.i .i64 p0.kind))), (5, (.ptr 2 0)), (4, (.d (.b false))), (3, (.ptr 3 0)), (2, (.ptr 2 0)), (0, (vGValue p0)), (1, (vGValue p1))], [(3, [(.d (.i .i64 p1.kind)), (.d (.i .i64 p1.num)), (.d (.s (bs p1.text)))]), (2, [(.d (.i .i64 p0.kind)), (.d (.i .i64 p0.num)), (.d (.s (bs p0.text)))])]⟩) (by kernel_rfl) ?_
    refine nil_in ?_
    refine next_in ?_
    refine cond_step h (by kernel_rfl) ?_ ?_
    · clear h; intro h
      refine seq_in ?_
      refine ops_in ?_
      refine sts_ok 1 (s' := ⟨[(4, (.d (.b false))), (14, (.d (.b (!decide (p0.num = p1.num))))), (13, (.d (.i .i64 p1.num))), (12, (.ptr 3 1)), (11, (.d (.i .i64 p0.num))), (10, (.ptr 2 1)), (9, (.d (.b (!decide (p0.kind = p1.kind))))), (8, (.d (.i .i64 p1.kind))), (7, (.ptr 3 0)), (6, (.d (.i .i64 p0.kind))), (5, (.ptr 2 0)), (4, (.d (.b false))), (3, (.ptr 3 0)), (2, (.ptr 2 0)), (0, (vGValue p0)), (1, (vGValue p1))], [(3, [(.d (.i .i64 p1.kind)), (.d (.i .i64 p1.num)), (.d (.s (bs p1.text)))]), (2, [(.d (.i .i64 p0.kind)), (.d (.i .i64 p0.num)), (.d (.s (bs p0.text)))])]⟩) (by kernel_rfl) ?_
      refine nil_in ?_
      refine next_in ?_
      refine ret_in ?_
      refine thenK_ret ?_
      have h := Option.some.inj h; subst h
      exact ret1_step (v := (.d (.b false))) (by kernel_rfl) (by kernel_rfl) (by kernel_rfl)
    · clear h; intro h
      refine skip_in ?_
      refine next_in ?_
      refine seq_in ?_
      refine seq_in ?_
      refine ops_in ?_
      refine sts_ok 5 (s' := ⟨[(19, (.d (.b (!decide (p0.text = p1.text))))), (18, (.d (.s (bs p1.text)))), (17, (.ptr 3 2)), (16, (.d (.s (bs p0.text)))), (15, (.ptr 2 2)), (14, (.d (.b (!decide (p0.num = p1.num))))), (13, (.d (.i .i64 p1.num))), (12, (.ptr 3 1)), (11, (.d (.i .i64 p0.num))), (10, (.ptr 2 1)), (9, (.d (.b (!decide (p0.kind = p1.kind))))), (8, (.d (.i .i64 p1.kind))), (7, (.ptr 3 0)), (6, (.d (.i .i64 p0.kind))), (5, (.ptr 2 0)), (4, (.d (.b false))), (3, (.ptr 3 0)), (2, (.ptr 2 0)), (0, (vGValue p0)), (1, (vGValue p1))], [(3, [(.d (.i .i64 p1.kind)), (.d (.i .i64 p1.num)), (.d (.s (bs p1.text)))]), (2, [(.d (.i .i64 p0.kind)), (.d (.i .i64 p0.num)), (.d (.s (bs p0.text)))])]⟩) (by kernel_rfl) ?_
      refine nil_in ?_
      refine next_in ?_
      refine cond_step h (by kernel_rfl) ?_ ?_
      · clear h; intro h
        refine seq_in ?_
        refine ops_in ?_
        refine sts_ok 1 (s' := ⟨[(4, (.d (.b false))), (19, (.d (.b (!decide (p0.text = p1.text))))), (18, (.d (.s (bs p1.text)))), (17, (.ptr 3 2)), (16, (.d (.s (bs p0.text)))), (15, (.ptr 2 2)), (14, (.d (.b (!decide (p0.num = p1.num))))), (13, (.d (.i .i64 p1.num))), (12, (.ptr 3 1)), (11, (.d (.i .i64 p0.num))), (10, (.ptr 2 1)), (9, (.d (.b (!decide (p0.kind = p1.kind))))), (8, (.d (.i .i64 p1.kind))), (7, (.ptr 3 0)), (6, (.d (.i .i64 p0.kind))), (5, (.ptr 2 0)), (4, (.d (.b false))), (3, (.ptr 3 0)), (2, (.ptr 2 0)), (0, (vGValue p0)), (1, (vGValue p1))], [(3, [(.d (.i .i64 p1.kind)), (.d (.i .i64 p1.num)), (.d (.s (bs p1.text)))]), (2, [(.d (.i .i64 p0.kind)), (.d (.i .i64 p0.num)), (.d (.s (bs p0.text)))])]⟩) (by kernel_rfl) ?_
        refine nil_in ?_
        refine next_in ?_
        refine ret_in ?_
        refine thenK_ret ?_
        have h := Option.some.inj h; subst h
        exact ret1_step (v := (.d (.b false))) (by kernel_rfl) (by kernel_rfl) (by kernel_rfl)
      · clear h; intro h
        refine skip_in ?_
        refine next_in ?_
        refine seq_in ?_
        refine ops_in ?_
        refine sts_ok 1 (s' := ⟨[(4, (.d (.b true))), (19, (.d (.b (!decide (p0.text = p1.text))))), (18, (.d (.s (bs p1.text)))), (17, (.ptr 3 2)), (16, (.d (.s (bs p0.text)))), (15, (.ptr 2 2)), (14, (.d (.b (!decide (p0.num = p1.num))))), (13, (.d (.i .i64 p1.num))), (12, (.ptr 3 1)), (11, (.d (.i .i64 p0.num))), (10, (.ptr 2 1)), (9, (.d (.b (!decide (p0.kind = p1.kind))))), (8, (.d (.i .i64 p1.kind))), (7, (.ptr 3 0)), (6, (.d (.i .i64 p0.kind))), (5, (.ptr 2 0)), (4, (.d (.b false))), (3, (.ptr 3 0)), (2, (.ptr 2 0)), (0, (vGValue p0)), (1, (vGValue p1))], [(3, [(.d (.i .i64 p1.kind)), (.d (.i .i64 p1.num)), (.d (.s (bs p1.text)))]), (2, [(.d (.i .i64 p0.kind)), (.d (.i .i64 p0.num)), (.d (.s (bs p0.text)))])]⟩) (by kernel_rfl) ?_
        refine nil_in ?_
        refine next_in ?_
        refine ret_in ?_
        have h := Option.some.inj h; subst h
        exact ret1_step (v := (.d (.b true))) (by kernel_rfl) (by kernel_rfl) (by kernel_rfl)
theorem OKs_wEqValueS_L0 (p0 : (List GValue)) (p1 : (List GValue)) : (∀ (x5 : Int) (r : Bool), wEqValueS_L0 p0 p1 x5 = some r → avc Try.prog acwEqValueS_L0 (qwEqValueS_1 r) (stwEqValueS_L0 p0 p1 x5)) := by
  refine wEqValueS_L0.partial_correctness p0 p1 (fun x5 r => avc Try.prog acwEqValueS_L0 (qwEqValueS_1 r) (stwEqValueS_L0 p0 p1 x5)) ?_
  · intro F_wEqValueS_L0 OK_wEqValueS_L0 x5 r h
    delta acwEqValueS_L0
    refine loop_unroll ?_
    refine seq_in ?_
    refine seq_in ?_
    refine ops_in ?_
    refine sts_ok 2 (s' := ⟨(12, (.d (.sl 3 (p0.map cGValue)))) :: (11, (.d (.i .i64 x5))) :: (stwEqValueS_L0 p0 p1 x5).env, (stwEqValueS_L0 p0 p1 x5).bx⟩) (by kernel_rfl) ?_
    refine p_step (v' := (.d (.i .i64 (p0.length : Int)))) rfl rfl (vop_len (sz := 3) (l := p0) (f := cGValue) (by kernel_rfl) (by kernel_rfl)) ?_
    refine sts_ok 1 (s' := ⟨(14, (.d (.b (decide (x5 < (p0.length : Int)))))) :: (13, (.d (.i .i64 (p0.length : Int)))) :: (12, (.d (.sl 3 (p0.map cGValue)))) :: (11, (.d (.i .i64 x5))) :: (stwEqValueS_L0 p0 p1 x5).env, (stwEqValueS_L0 p0 p1 x5).bx⟩) (by kernel_rfl) ?_
    refine nil_in ?_
    refine next_in ?_
    refine cond_step h (by kernel_rfl) ?_ ?_
    · clear h; intro h
      refine skip_in ?_
      refine next_in ?_
      refine seq_in ?_
      refine block_in ?_
      refine seq_in ?_
      refine dops_in ?_
      refine dsts_ok 2 (s' := ⟨(18, (.d (.i .i64 x5))) :: (17, (.d (.sl 3 (p0.map cGValue)))) :: (14, (.d (.b (decide (x5 < (p0.length : Int)))))) :: (13, (.d (.i .i64 (p0.length : Int)))) :: (12, (.d (.sl 3 (p0.map cGValue)))) :: (11, (.d (.i .i64 x5))) :: (stwEqValueS_L0 p0 p1 x5).env, (stwEqValueS_L0 p0 p1 x5).bx⟩) (by kernel_rfl) ?_
      refine dv_step (m := idx p0 x5) (v' := fun y => (.rp [(.i .i64 y.kind), (.i .i64 y.num), (.s (bs y.text))])) h rfl rfl (fun y hy => vop_ia (l := p0) (f := cGValue) (g := cGValue) (k := .i64) hy (fun _ => rfl) (by kernel_rfl) (by kernel_rfl) (by kernel_rfl)) ?_
      clear h; intro y1 h
      refine dsts_ok 3 (s' := ⟨(22, (.d (.i .i64 x5))) :: (21, (.d (.sl 3 (p1.map cGValue)))) :: (20, (vGValue y1)) :: (19, (.rp [(.i .i64 y1.kind), (.i .i64 y1.num), (.s (bs y1.text))])) :: (18, (.d (.i .i64 x5))) :: (17, (.d (.sl 3 (p0.map cGValue)))) :: (14, (.d (.b (decide (x5 < (p0.length : Int)))))) :: (13, (.d (.i .i64 (p0.length : Int)))) :: (12, (.d (.sl 3 (p0.map cGValue)))) :: (11, (.d (.i .i64 x5))) :: (stwEqValueS_L0 p0 p1 x5).env, (stwEqValueS_L0 p0 p1 x5).bx⟩) (by kernel_rfl) ?_
      refine dv_step (m := idx p1 x5) (v' := fun y => (.rp [(.i .i64 y.kind), (.i .i64 y.num), (.s (bs y.text))])) h rfl rfl (fun y hy => vop_ia (l := p1) (f := cGValue) (g := cGValue) (k := .i64) hy (fun _ => rfl) (by kernel_rfl) (by kernel_rfl) (by kernel_rfl)) ?_
      clear h; intro y2 h
      refine dsts_ok 1 (s' := ⟨(24, (vGValue y2)) :: (23, (.rp [(.i .i64 y2.kind), (.i .i64 y2.num), (.s (bs y2.text))])) :: (22, (.d (.i .i64 x5))) :: (21, (.d (.sl 3 (p1.map cGValue)))) :: (20, (vGValue y1)) :: (19, (.rp [(.i .i64 y1.kind), (.i .i64 y1.num), (.s (bs y1.text))])) :: (18, (.d (.i .i64 x5))) :: (17, (.d (.sl 3 (p0.map cGValue)))) :: (14, (.d (.b (decide (x5 < (p0.length : Int)))))) :: (13, (.d (.i .i64 (p0.length : Int)))) :: (12, (.d (.sl 3 (p0.map cGValue)))) :: (11, (.d (.i .i64 x5))) :: (stwEqValueS_L0 p0 p1 x5).env, (stwEqValueS_L0 p0 p1 x5).bx⟩) (by kernel_rfl) ?_
      refine dcall_step (m := wEqValue y1 y2) (args := [(vGValue y1), (vGValue y2)]) (v' := (fun y => (.d (.b y)))) h (OK_wEqValue y1 y2) (by kernel_rfl) (by kernel_rfl) (fun _ => rfl) ?_
      clear h; intro y3 h
      refine dsts_ok 1 (s' := ⟨(26, (.d (.b (!y3)))) :: (25, (.d (.b y3))) :: (24, (vGValue y2)) :: (23, (.rp [(.i .i64 y2.kind), (.i .i64 y2.num), (.s (bs y2.text))])) :: (22, (.d (.i .i64 x5))) :: (21, (.d (.sl 3 (p1.map cGValue)))) :: (20, (vGValue y1)) :: (19, (.rp [(.i .i64 y1.kind), (.i .i64 y1.num), (.s (bs y1.text))])) :: (18, (.d (.i .i64 x5))) :: (17, (.d (.sl 3 (p0.map cGValue)))) :: (14, (.d (.b (decide (x5 < (p0.length : Int)))))) :: (13, (.d (.i .i64 (p0.length : Int)))) :: (12, (.d (.sl 3 (p0.map cGValue)))) :: (11, (.d (.i .i64 x5))) :: (stwEqValueS_L0 p0 p1 x5).env, (stwEqValueS_L0 p0 p1 x5).bx⟩) (by kernel_rfl) ?_
      refine dnil_in (by kernel_rfl) (by kernel_rfl) ?_
      refine next_in ?_
      refine cond_step h (by kernel_rfl) ?_ ?_
      · clear h; intro h
        refine seq_in ?_
        refine ops_in ?_
        refine sts_ok 1 (s' := ⟨(4, (.d (.b false))) :: (26, (.d (.b (!y3)))) :: (25, (.d (.b y3))) :: (24, (vGValue y2)) :: (23, (.rp [(.i .i64 y2.kind), (.i .i64 y2.num), (.s (bs y2.text))])) :: (22, (.d (.i .i64 x5))) :: (21, (.d (.sl 3 (p1.map cGValue)))) :: (20, (vGValue y1)) :: (19, (.rp [(.i .i64 y1.kind), (.i .i64 y1.num), (.s (bs y1.text))])) :: (18, (.d (.i .i64 x5))) :: (17, (.d (.sl 3 (p0.map cGValue)))) :: (14, (.d (.b (decide (x5 < (p0.length : Int)))))) :: (13, (.d (.i .i64 (p0.length : Int)))) :: (12, (.d (.sl 3 (p0.map cGValue)))) :: (11, (.d (.i .i64 x5))) :: (stwEqValueS_L0 p0 p1 x5).env, (stwEqValueS_L0 p0 p1 x5).bx⟩) (by kernel_rfl) ?_
        refine nil_in ?_
        refine next_in ?_
        refine ret_in ?_
        refine blockK_ret ?_
        refine thenK_ret ?_
        refine thenK_ret ?_
        refine blockK_ret ?_
        refine thenK_ret ?_
        have h := Option.some.inj h; subst h
        exact ret1_step (v := (.d (.b false))) (by kernel_rfl) (by kernel_rfl) (by kernel_rfl)
      · clear h; intro h
        refine skip_in ?_
        refine blockK_norm ?_
        refine next_in ?_
        refine ops_in ?_
        refine sts_ok 3 (s' := ⟨(5, (.d (.i .i64 (IntKind.wrap .i64 (x5 + 1))))) :: (16, (.d (.i .i64 (IntKind.wrap .i64 (x5 + 1))))) :: (15, (.d (.i .i64 x5))) :: (26, (.d (.b (!y3)))) :: (25, (.d (.b y3))) :: (24, (vGValue y2)) :: (23, (.rp [(.i .i64 y2.kind), (.i .i64 y2.num), (.s (bs y2.text))])) :: (22, (.d (.i .i64 x5))) :: (21, (.d (.sl 3 (p1.map cGValue)))) :: (20, (vGValue y1)) :: (19, (.rp [(.i .i64 y1.kind), (.i .i64 y1.num), (.s (bs y1.text))])) :: (18, (.d (.i .i64 x5))) :: (17, (.d (.sl 3 (p0.map cGValue)))) :: (14, (.d (.b (decide (x5 < (p0.length : Int)))))) :: (13, (.d (.i .i64 (p0.length : Int)))) :: (12, (.d (.sl 3 (p0.map cGValue)))) :: (11, (.d (.i .i64 x5))) :: (stwEqValueS_L0 p0 p1 x5).env, (stwEqValueS_L0 p0 p1 x5).bx⟩) (by kernel_rfl) ?_
        refine nil_in ?_
        exact loop_back (s' := stwEqValueS_L0 p0 p1 (IntKind.wrap .i64 (x5 + 1))) (wk_ren [] (by kernel_rfl) (er_cons (vr_same (by kernel_rfl) (by kernel_rfl)) (er_cons (vr_same (by kernel_rfl) (by kernel_rfl)) (er_cons (vr_same (by kernel_rfl) (by kernel_rfl)) (er_nil)))) (br_nil)) (OK_wEqValueS_L0 (IntKind.wrap .i64 (x5 + 1)) _ h)
    · clear h; intro h
      refine exit_in ?_
      refine thenK_exit ?_
      refine thenK_exit ?_
      refine blockK_here ?_
      refine next_in ?_
      refine seq_in ?_
      refine ops_in ?_
      refine sts_ok 1 (s' := ⟨(4, (.d (.b true))) :: (14, (.d (.b (decide (x5 < (p0.length : Int)))))) :: (13, (.d (.i .i64 (p0.length : Int)))) :: (12, (.d (.sl 3 (p0.map cGValue)))) :: (11, (.d (.i .i64 x5))) :: (stwEqValueS_L0 p0 p1 x5).env, (stwEqValueS_L0 p0 p1 x5).bx⟩) (by kernel_rfl) ?_
      refine nil_in ?_
      refine next_in ?_
      refine ret_in ?_
      have h := Option.some.inj h; subst h
      exact ret1_step (v := (.d (.b true))) (by kernel_rfl) (by kernel_rfl) (by kernel_rfl)
theorem OK_wEqValueS_L0 (p0 : (List GValue)) (p1 : (List GValue)) (x5 : Int) (r : Bool) (h : wEqValueS_L0 p0 p1 x5 = some r) : avc Try.prog acwEqValueS_L0 (qwEqValueS_1 r) (stwEqValueS_L0 p0 p1 x5) := (OKs_wEqValueS_L0 p0 p1) x5 r h
theorem OK_wEqValueS (p0 : (List GValue)) (p1 : (List GValue)) : FOk Try.prog 34 [(.d (.sl 3 (p0.map cGValue))), (.d (.sl 3 (p1.map cGValue)))] (fun y => (.d (.b y))) (wEqValueS p0 p1) := by
  intro r h
  rw [wEqValueS] at h
  refine acalls_of_fn trwEqValueS (Nat.le_of_ble_eq_true rfl) (by simp) ?_
  show avc Try.prog acwEqValueS (qwEqValueS _) ⟨[(0, (.d (.sl 3 (p0.map cGValue)))), (1, (.d (.sl 3 (p1.map cGValue))))], []⟩
  delta acwEqValueS
  refine seq_in ?_
  refine ops_in ?_
  refine sts_ok 1 (s' := ⟨[(4, (.d (.b false))), (0, (.d (.sl 3 (p0.map cGValue)))), (1, (.d (.sl 3 (p1.map cGValue))))], []⟩) (by kernel_rfl) ?_
  refine nil_in ?_
  refine next_in ?_
  refine seq_in ?_
  refine seq_in ?_
  refine ops_in ?_
  refine sts_ok 1 (s' := ⟨[(6, (.d (.sl 3 (p0.map cGValue)))), (4, (.d (.b false))), (0, (.d (.sl 3 (p0.map cGValue)))), (1, (.d (.sl 3 (p1.map cGValue))))], []⟩) (by kernel_rfl) ?_
  refine p_step (v' := (.d (.i .i64 (p0.length : Int)))) rfl rfl (vop_len (sz := 3) (l := p0) (f := cGValue) (by kernel_rfl) (by kernel_rfl)) ?_
  refine sts_ok 1 (s' := ⟨[(8, (.d (.sl 3 (p1.map cGValue)))), (7, (.d (.i .i64 (p0.length : Int)))), (6, (.d (.sl 3 (p0.map cGValue)))), (4, (.d (.b false))), (0, (.d (.sl 3 (p0.map cGValue)))), (1, (.d (.sl 3 (p1.map cGValue))))], []⟩) (by kernel_rfl) ?_
  refine p_step (v' := (.d (.i .i64 (p1.length : Int)))) rfl rfl (vop_len (sz := 3) (l := p1) (f := cGValue) (by kernel_rfl) (by kernel_rfl)) ?_
  refine sts_ok 1 (s' := ⟨[(10, (.d (.b (!decide ((p0.length : Int) = (p1.length : Int)))))), (9, (.d (.i .i64 (p1.length : Int)))), (8, (.d (.sl 3 (p1.map cGValue)))), (7, (.d (.i .i64 (p0.length : Int)))), (6, (.d (.sl 3 (p0.map cGValue)))), (4, (.d (.b false))), (0, (.d (.sl 3 (p0.map cGValue)))), (1, (.d (.sl 3 (p1.map cGValue))))], []⟩) (by kernel_rfl) ?_
  refine nil_in ?_
  refine next_in ?_
  refine cond_step h (by kernel_rfl) ?_ ?_
  · clear h; intro h
    refine seq_in ?_
    refine ops_in ?_
    refine sts_ok 1 (s' := ⟨[(4, (.d (.b false))), (10, (.d (.b (!decide ((p0.length : Int) = (p1.length : Int)))))), (9, (.d (.i .i64 (p1.length : Int)))), (8, (.d (.sl 3 (p1.map cGValue)))), (7, (.d (.i .i64 (p0.length : Int)))), (6, (.d (.sl 3 (p0.map cGValue)))), (4, (.d (.b false))), (0, (.d (.sl 3 (p0.map cGValue)))), (1, (.d (.sl 3 (p1.map cGValue))))], []⟩) (by kernel_rfl) ?_
    refine nil_in ?_
    refine next_in ?_
    refine ret_in ?_
    refine thenK_ret ?_
    have h := Option.some.inj h; subst h
    exact ret1_step (v := (.d (.b false))) (by kernel_rfl) (by kernel_rfl) (by kernel_rfl)
  · clear h; intro h
    refine skip_in ?_
    refine next_in ?_
    refine seq_in ?_
    refine seq_in ?_
    refine ops_in ?_
    refine sts_ok 1 (s' := ⟨[(5, (.d (.i .i64 0))), (10, (.d (.b (!decide ((p0.length : Int) = (p1.length : Int)))))), (9, (.d (.i .i64 (p1.length : Int)))), (8, (.d (.sl 3 (p1.map cGValue)))), (7, (.d (.i .i64 (p0.length : Int)))), (6, (.d (.sl 3 (p0.map cGValue)))), (4, (.d (.b false))), (0, (.d (.sl 3 (p0.map cGValue)))), (1, (.d (.sl 3 (p1.map cGValue))))], []⟩) (by kernel_rfl) ?_
    refine nil_in ?_
    refine next_in ?_
    refine block_in ?_
    exact loop_go (s' := stwEqValueS_L0 p0 p1 0) (wk_ren [] (by kernel_rfl) (er_cons (vr_same (by kernel_rfl) (by kernel_rfl)) (er_cons (vr_same (by kernel_rfl) (by kernel_rfl)) (er_cons (vr_same (by kernel_rfl) (by kernel_rfl)) (er_nil)))) (br_nil)) (OK_wEqValueS_L0 p0 p1 0 _ h)
theorem OK_wSzValue (p0 : GValue) (p1 : Int) : FOk Try.prog 21 [(vGValue p0), (.d (.i .i64 p1))] (fun y => (.d (.i .i64 y))) (wSzValue p0 p1) := by
  intro r h
  rw [wSzValue] at h
  refine acalls_of_fn trwSzValue (Nat.le_of_ble_eq_true rfl) (by simp) ?_
  show avc Try.prog acwSzValue (qwSzValue _) ⟨[(0, (vGValue p0)), (1, (.d (.i .i64 p1)))], []⟩
  delta acwSzValue
  refine seq_in ?_
  refine ops_in ?_
  refine sts_ok 2 (s' := ⟨[(4, (.d (.i .i64 0))), (2, (.ptr 2 0)), (0, (vGValue p0)), (1, (.d (.i .i64 p1)))], [(2, [(.d (.i .i64 p0.kind)), (.d (.i .i64 p0.num)), (.d (.s (bs p0.text)))])]⟩) (by kernel_rfl) ?_
  refine nil_in ?_
  refine next_in ?_
  refine seq_in ?_
  refine ops_in ?_
  refine sts_ok 6 (s' := ⟨[(1, (.d (.i .i64 (IntKind.wrap .i64 (p1 - (p0.text.length : Int)))))), (9, (.d (.i .i64 (IntKind.wrap .i64 (p1 - (p0.text.length : Int)))))), (8, (.d (.i .i64 (p0.text.length : Int)))), (7, (.d (.s (bs p0.text)))), (6, (.ptr 2 2)), (5, (.d (.i .i64 p1))), (4, (.d (.i .i64 0))), (2, (.ptr 2 0)), (0, (vGValue p0)), (1, (.d (.i .i64 p1)))], [(2, [(.d (.i .i64 p0.kind)), (.d (.i .i64 p0.num)), (.d (.s (bs p0.text)))])]⟩) (by kernel_rfl) ?_
  refine nil_in ?_
  refine next_in ?_
  refine seq_in ?_
  refine seq_in ?_
  refine ops_in ?_
  refine sts_ok 2 (s' := ⟨[(11, (.d (.b (decide ((IntKind.wrap .i64 (p1 - (p0.text.length : Int))) < 0))))), (10, (.d (.i .i64 (IntKind.wrap .i64 (p1 - (p0.text.length : Int)))))), (1, (.d (.i .i64 (IntKind.wrap .i64 (p1 - (p0.text.length : Int)))))), (9, (.d (.i .i64 (IntKind.wrap .i64 (p1 - (p0.text.length : Int)))))), (8, (.d (.i .i64 (p0.text.length : Int)))), (7, (.d (.s (bs p0.text)))), (6, (.ptr 2 2)), (5, (.d (.i .i64 p1))), (4, (.d (.i .i64 0))), (2, (.ptr 2 0)), (0, (vGValue p0)), (1, (.d (.i .i64 p1)))], [(2, [(.d (.i .i64 p0.kind)), (.d (.i .i64 p0.num)), (.d (.s (bs p0.text)))])]⟩) (by kernel_rfl) ?_
  refine nil_in ?_
  refine next_in ?_
  refine cond_step h (by kernel_rfl) ?_ ?_
  · clear h; intro h
    refine seq_in ?_
    refine ops_in ?_
    refine sts_ok 1 (s' := ⟨[(4, (.d (.i .i64 (-1)))), (11, (.d (.b (decide ((IntKind.wrap .i64 (p1 - (p0.text.length : Int))) < 0))))), (10, (.d (.i .i64 (IntKind.wrap .i64 (p1 - (p0.text.length : Int)))))), (1, (.d (.i .i64 (IntKind.wrap .i64 (p1 - (p0.text.length : Int)))))), (9, (.d (.i .i64 (IntKind.wrap .i64 (p1 - (p0.text.length : Int)))))), (8, (.d (.i .i64 (p0.text.length : Int)))), (7, (.d (.s (bs p0.text)))), (6, (.ptr 2 2)), (5, (.d (.i .i64 p1))), (4, (.d (.i .i64 0))), (2, (.ptr 2 0)), (0, (vGValue p0)), (1, (.d (.i .i64 p1)))], [(2, [(.d (.i .i64 p0.kind)), (.d (.i .i64 p0.num)), (.d (.s (bs p0.text)))])]⟩) (by kernel_rfl) ?_
    refine nil_in ?_
    refine next_in ?_
    refine ret_in ?_
    refine thenK_ret ?_
    have h := Option.some.inj h; subst h
    exact ret1_step (v := (.d (.i .i64 (-1)))) (by kernel_rfl) (by kernel_rfl) (by kernel_rfl)
  · clear h; intro h
    refine skip_in ?_
    refine next_in ?_
    refine seq_in ?_
    refine ops_in ?_
    refine sts_ok 2 (s' := ⟨[(4, (.d (.i .i64 (IntKind.wrap .i64 (p1 - (p0.text.length : Int)))))), (12, (.d (.i .i64 (IntKind.wrap .i64 (p1 - (p0.text.length : Int)))))), (11, (.d (.b (decide ((IntKind.wrap .i64 (p1 - (p0.text.length : Int))) < 0))))), (10, (.d (.i .i64 (IntKind.wrap .i64 (p1 - (p0.text.length : Int)))))), (1, (.d (.i .i64 (IntKind.wrap .i64 (p1 - (p0.text.length : Int)))))), (9, (.d (.i .i64 (IntKind.wrap .i64 (p1 - (p0.text.length : Int)))))), (8, (.d (.i .i64 (p0.text.length : Int)))), (7, (.d (.s (bs p0.text)))), (6, (.ptr 2 2)), (5, (.d (.i .i64 p1))), (4, (.d (.i .i64 0))), (2, (.ptr 2 0)), (0, (vGValue p0)), (1, (.d (.i .i64 p1)))], [(2, [(.d (.i .i64 p0.kind)), (.d (.i .i64 p0.num)), (.d (.s (bs p0.text)))])]⟩) (by kernel_rfl) ?_
    refine nil_in ?_
    refine next_in ?_
    refine ret_in ?_
    have h := Option.some.inj h; subst h
    exact ret1_step (v := (.d (.i .i64 (IntKind.wrap .i64 (p1 - (p0.text.length : Int)))))) (by kernel_rfl) (by kernel_rfl) (by kernel_rfl)
theorem OKs_wSzValueS_L0 (p0 : (List GValue)) : (∀ (x1 : Int) (x5 : Int) (r : Int), wSzValueS_L0 p0 x1 x5 = some r → avc Try.prog acwSzValueS_L0 (qwSzValueS_1 r) (stwSzValueS_L0 p0 x1 x5)) := by
  refine wSzValueS_L0.partial_correctness p0 (fun x1 x5 r => avc Try.prog acwSzValueS_L0 (qwSzValueS_1 r) (stwSzValueS_L0 p0 x1 x5)) ?_
  · intro F_wSzValueS_L0 OK_wSzValueS_L0 x1 x5 r h
    delta acwSzValueS_L0
    refine loop_unroll ?_
    refine seq_in ?_
    refine seq_in ?_
    refine ops_in ?_
    refine sts_ok 2 (s' := ⟨(13, (.d (.sl 3 (p0.map cGValue)))) :: (12, (.d (.i .i64 x5))) :: (stwSzValueS_L0 p0 x1 x5).env, (stwSzValueS_L0 p0 x1 x5).bx⟩) (by kernel_rfl) ?_
    refine p_step (v' := (.d (.i .i64 (p0.length : Int)))) rfl rfl (vop_len (sz := 3) (l := p0) (f := cGValue) (by kernel_rfl) (by kernel_rfl)) ?_
    refine sts_ok 1 (s' := ⟨(15, (.d (.b (decide (x5 < (p0.length : Int)))))) :: (14, (.d (.i .i64 (p0.length : Int)))) :: (13, (.d (.sl 3 (p0.map cGValue)))) :: (12, (.d (.i .i64 x5))) :: (stwSzValueS_L0 p0 x1 x5).env, (stwSzValueS_L0 p0 x1 x5).bx⟩) (by kernel_rfl) ?_
    refine nil_in ?_
    refine next_in ?_
    refine cond_step h (by kernel_rfl) ?_ ?_
    · clear h; intro h
      refine skip_in ?_
      refine next_in ?_
      refine seq_in ?_
      refine block_in ?_
      refine seq_in ?_
      refine ops_in ?_
      refine sts_ok 2 (s' := ⟨(19, (.d (.i .i64 x5))) :: (18, (.d (.sl 3 (p0.map cGValue)))) :: (15, (.d (.b (decide (x5 < (p0.length : Int)))))) :: (14, (.d (.i .i64 (p0.length : Int)))) :: (13, (.d (.sl 3 (p0.map cGValue)))) :: (12, (.d (.i .i64 x5))) :: (stwSzValueS_L0 p0 x1 x5).env, (stwSzValueS_L0 p0 x1 x5).bx⟩) (by kernel_rfl) ?_
      refine v_step (m := idx p0 x5) (v' := fun y => (.rp [(.i .i64 y.kind), (.i .i64 y.num), (.s (bs y.text))])) h rfl rfl (fun y hy => vop_ia (l := p0) (f := cGValue) (g := cGValue) (k := .i64) hy (fun _ => rfl) (by kernel_rfl) (by kernel_rfl) (by kernel_rfl)) ?_
      clear h; intro y1 h
      refine sts_ok 2 (s' := ⟨(22, (.d (.i .i64 x1))) :: (21, (vGValue y1)) :: (20, (.rp [(.i .i64 y1.kind), (.i .i64 y1.num), (.s (bs y1.text))])) :: (19, (.d (.i .i64 x5))) :: (18, (.d (.sl 3 (p0.map cGValue)))) :: (15, (.d (.b (decide (x5 < (p0.length : Int)))))) :: (14, (.d (.i .i64 (p0.length : Int)))) :: (13, (.d (.sl 3 (p0.map cGValue)))) :: (12, (.d (.i .i64 x5))) :: (stwSzValueS_L0 p0 x1 x5).env, (stwSzValueS_L0 p0 x1 x5).bx⟩) (by kernel_rfl) ?_
      refine call_step (m := wSzValue y1 x1) (args := [(vGValue y1), (.d (.i .i64 x1))]) (v' := (fun y => (.d (.i .i64 y)))) h (OK_wSzValue y1 x1) (by kernel_rfl) (by kernel_rfl) (fun _ => rfl) ?_
      clear h; intro y2 h
      refine sts_ok 1 (s' := ⟨(1, (.d (.i .i64 y2))) :: (23, (.d (.i .i64 y2))) :: (22, (.d (.i .i64 x1))) :: (21, (vGValue y1)) :: (20, (.rp [(.i .i64 y1.kind), (.i .i64 y1.num), (.s (bs y1.text))])) :: (19, (.d (.i .i64 x5))) :: (18, (.d (.sl 3 (p0.map cGValue)))) :: (15, (.d (.b (decide (x5 < (p0.length : Int)))))) :: (14, (.d (.i .i64 (p0.length : Int)))) :: (13, (.d (.sl 3 (p0.map cGValue)))) :: (12, (.d (.i .i64 x5))) :: (stwSzValueS_L0 p0 x1 x5).env, (stwSzValueS_L0 p0 x1 x5).bx⟩) (by kernel_rfl) ?_
      refine nil_in ?_
      refine next_in ?_
      refine seq_in ?_
      refine ops_in ?_
      refine sts_ok 2 (s' := ⟨(25, (.d (.b (decide (y2 < 0))))) :: (24, (.d (.i .i64 y2))) :: (1, (.d (.i .i64 y2))) :: (23, (.d (.i .i64 y2))) :: (22, (.d (.i .i64 x1))) :: (21, (vGValue y1)) :: (20, (.rp [(.i .i64 y1.kind), (.i .i64 y1.num), (.s (bs y1.text))])) :: (19, (.d (.i .i64 x5))) :: (18, (.d (.sl 3 (p0.map cGValue)))) :: (15, (.d (.b (decide (x5 < (p0.length : Int)))))) :: (14, (.d (.i .i64 (p0.length : Int)))) :: (13, (.d (.sl 3 (p0.map cGValue)))) :: (12, (.d (.i .i64 x5))) :: (stwSzValueS_L0 p0 x1 x5).env, (stwSzValueS_L0 p0 x1 x5).bx⟩) (by kernel_rfl) ?_
      refine nil_in ?_
      refine next_in ?_
      refine cond_step h (by kernel_rfl) ?_ ?_
      · clear h; intro h
        refine seq_in ?_
        refine ops_in ?_
        refine sts_ok 1 (s' := ⟨(4, (.d (.i .i64 (-1)))) :: (25, (.d (.b (decide (y2 < 0))))) :: (24, (.d (.i .i64 y2))) :: (1, (.d (.i .i64 y2))) :: (23, (.d (.i .i64 y2))) :: (22, (.d (.i .i64 x1))) :: (21, (vGValue y1)) :: (20, (.rp [(.i .i64 y1.kind), (.i .i64 y1.num), (.s (bs y1.text))])) :: (19, (.d (.i .i64 x5))) :: (18, (.d (.sl 3 (p0.map cGValue)))) :: (15, (.d (.b (decide (x5 < (p0.length : Int)))))) :: (14, (.d (.i .i64 (p0.length : Int)))) :: (13, (.d (.sl 3 (p0.map cGValue)))) :: (12, (.d (.i .i64 x5))) :: (stwSzValueS_L0 p0 x1 x5).env, (stwSzValueS_L0 p0 x1 x5).bx⟩) (by kernel_rfl) ?_
        refine nil_in ?_
        refine next_in ?_
        refine ret_in ?_
        refine blockK_ret ?_
        refine thenK_ret ?_
        refine thenK_ret ?_
        refine blockK_ret ?_
        refine thenK_ret ?_
        have h := Option.some.inj h; subst h
        exact ret1_step (v := (.d (.i .i64 (-1)))) (by kernel_rfl) (by kernel_rfl) (by kernel_rfl)
      · clear h; intro h
        refine skip_in ?_
        refine blockK_norm ?_
        refine next_in ?_
        refine ops_in ?_
        refine sts_ok 3 (s' := ⟨(5, (.d (.i .i64 (IntKind.wrap .i64 (x5 + 1))))) :: (17, (.d (.i .i64 (IntKind.wrap .i64 (x5 + 1))))) :: (16, (.d (.i .i64 x5))) :: (25, (.d (.b (decide (y2 < 0))))) :: (24, (.d (.i .i64 y2))) :: (1, (.d (.i .i64 y2))) :: (23, (.d (.i .i64 y2))) :: (22, (.d (.i .i64 x1))) :: (21, (vGValue y1)) :: (20, (.rp [(.i .i64 y1.kind), (.i .i64 y1.num), (.s (bs y1.text))])) :: (19, (.d (.i .i64 x5))) :: (18, (.d (.sl 3 (p0.map cGValue)))) :: (15, (.d (.b (decide (x5 < (p0.length : Int)))))) :: (14, (.d (.i .i64 (p0.length : Int)))) :: (13, (.d (.sl 3 (p0.map cGValue)))) :: (12, (.d (.i .i64 x5))) :: (stwSzValueS_L0 p0 x1 x5).env, (stwSzValueS_L0 p0 x1 x5).bx⟩) (by kernel_rfl) ?_
        refine nil_in ?_
        exact loop_back (s' := stwSzValueS_L0 p0 y2 (IntKind.wrap .i64 (x5 + 1))) (wk_ren [] (by kernel_rfl) (er_cons (vr_same (by kernel_rfl) (by kernel_rfl)) (er_cons (vr_same (by kernel_rfl) (by kernel_rfl)) (er_cons (vr_same (by kernel_rfl) (by kernel_rfl)) (er_nil)))) (br_nil)) (OK_wSzValueS_L0 y2 (IntKind.wrap .i64 (x5 + 1)) _ h)
    · clear h; intro h
      refine exit_in ?_
      refine thenK_exit ?_
      refine thenK_exit ?_
      refine blockK_here ?_
      refine next_in ?_
      refine seq_in ?_
      refine ops_in ?_
      refine sts_ok 2 (s' := ⟨(4, (.d (.i .i64 x1))) :: (26, (.d (.i .i64 x1))) :: (15, (.d (.b (decide (x5 < (p0.length : Int)))))) :: (14, (.d (.i .i64 (p0.length : Int)))) :: (13, (.d (.sl 3 (p0.map cGValue)))) :: (12, (.d (.i .i64 x5))) :: (stwSzValueS_L0 p0 x1 x5).env, (stwSzValueS_L0 p0 x1 x5).bx⟩) (by kernel_rfl) ?_
      refine nil_in ?_
      refine next_in ?_
      refine ret_in ?_
      have h := Option.some.inj h; subst h
      exact ret1_step (v := (.d (.i .i64 x1))) (by kernel_rfl) (by kernel_rfl) (by kernel_rfl)
theorem OK_wSzValueS_L0 (p0 : (List GValue)) (x1 : Int) (x5 : Int) (r : Int) (h : wSzValueS_L0 p0 x1 x5 = some r) : avc Try.prog acwSzValueS_L0 (qwSzValueS_1 r) (stwSzValueS_L0 p0 x1 x5) := (OKs_wSzValueS_L0 p0) x1 x5 r h
theorem OK_wSzValueS (p0 : (List GValue)) (p1 : Int) : FOk Try.prog 30 [(.d (.sl 3 (p0.map cGValue))), (.d (.i .i64 p1))] (fun y => (.d (.i .i64 y))) (wSzValueS p0 p1) := by
  intro r h
  rw [wSzValueS] at h
  refine acalls_of_fn trwSzValueS (Nat.le_of_ble_eq_true rfl) (by simp) ?_
  show avc Try.prog acwSzValueS (qwSzValueS _) ⟨[(0, (.d (.sl 3 (p0.map cGValue)))), (1, (.d (.i .i64 p1)))], []⟩
  delta acwSzValueS
  refine seq_in ?_
  refine ops_in ?_
  refine sts_ok 1 (s' := ⟨[(4, (.d (.i .i64 0))), (0, (.d (.sl 3 (p0.map cGValue)))), (1, (.d (.i .i64 p1)))], []⟩) (by kernel_rfl) ?_
  refine nil_in ?_
  refine next_in ?_
  refine seq_in ?_
  refine ops_in ?_
  refine sts_ok 2 (s' := ⟨[(7, (.d (.sl 3 (p0.map cGValue)))), (6, (.d (.i .i64 p1))), (4, (.d (.i .i64 0))), (0, (.d (.sl 3 (p0.map cGValue)))), (1, (.d (.i .i64 p1)))], []⟩) (by kernel_rfl) ?_
  refine p_step (v' := (.d (.i .i64 (p0.length : Int)))) rfl rfl (vop_len (sz := 3) (l := p0) (f := cGValue) (by kernel_rfl) (by kernel_rfl)) ?_
  refine sts_ok 2 (s' := ⟨[(1, (.d (.i .i64 (IntKind.wrap .i64 (p1 - (p0.length : Int)))))), (9, (.d (.i .i64 (IntKind.wrap .i64 (p1 - (p0.length : Int)))))), (8, (.d (.i .i64 (p0.length : Int)))), (7, (.d (.sl 3 (p0.map cGValue)))), (6, (.d (.i .i64 p1))), (4, (.d (.i .i64 0))), (0, (.d (.sl 3 (p0.map cGValue)))), (1, (.d (.i .i64 p1)))], []⟩) (by kernel_rfl) ?_
  refine nil_in ?_
  refine next_in ?_
  refine seq_in ?_
  refine seq_in ?_
  refine ops_in ?_
  refine sts_ok 2 (s' := ⟨[(11, (.d (.b (decide ((IntKind.wrap .i64 (p1 - (p0.length : Int))) < 0))))), (10, (.d (.i .i64 (IntKind.wrap .i64 (p1 - (p0.length : Int)))))), (1, (.d (.i .i64 (IntKind.wrap .i64 (p1 - (p0.length : Int)))))), (9, (.d (.i .i64 (IntKind.wrap .i64 (p1 - (p0.length : Int)))))), (8, (.d (.i .i64 (p0.length : Int)))), (7, (.d (.sl 3 (p0.map cGValue)))), (6, (.d (.i .i64 p1))), (4, (.d (.i .i64 0))), (0, (.d (.sl 3 (p0.map cGValue)))), (1, (.d (.i .i64 p1)))], []⟩) (by kernel_rfl) ?_
  refine nil_in ?_
  refine next_in ?_
  refine cond_step h (by kernel_rfl) ?_ ?_
  · clear h; intro h
    refine seq_in ?_
    refine ops_in ?_
    refine sts_ok 1 (s' := ⟨[(4, (.d (.i .i64 (-1)))), (11, (.d (.b (decide ((IntKind.wrap .i64 (p1 - (p0.length : Int))) < 0))))), (10, (.d (.i .i64 (IntKind.wrap .i64 (p1 - (p0.length : Int)))))), (1, (.d (.i .i64 (IntKind.wrap .i64 (p1 - (p0.length : Int)))))), (9, (.d (.i .i64 (IntKind.wrap .i64 (p1 - (p0.length : Int)))))), (8, (.d (.i .i64 (p0.length : Int)))), (7, (.d (.sl 3 (p0.map cGValue)))), (6, (.d (.i .i64 p1))), (4, (.d (.i .i64 0))), (0, (.d (.sl 3 (p0.map cGValue)))), (1, (.d (.i .i64 p1)))], []⟩) (by kernel_rfl) ?_
    refine nil_in ?_
    refine next_in ?_
    refine ret_in ?_
    refine thenK_ret ?_
    have h := Option.some.inj h; subst h
    exact ret1_step (v := (.d (.i .i64 (-1)))) (by kernel_rfl) (by kernel_rfl) (by kernel_rfl)
  · clear h; intro h
    refine skip_in ?_
    refine next_in ?_
    refine seq_in ?_
    refine seq_in ?_
    refine ops_in ?_
    refine sts_ok 1 (s' := ⟨[(5, (.d (.i .i64 0))), (11, (.d (.b (decide ((IntKind.wrap .i64 (p1 - (p0.length : Int))) < 0))))), (10, (.d (.i .i64 (IntKind.wrap .i64 (p1 - (p0.length : Int)))))), (1, (.d (.i .i64 (IntKind.wrap .i64 (p1 - (p0.length : Int)))))), (9, (.d (.i .i64 (IntKind.wrap .i64 (p1 - (p0.length : Int)))))), (8, (.d (.i .i64 (p0.length : Int)))), (7, (.d (.sl 3 (p0.map cGValue)))), (6, (.d (.i .i64 p1))), (4, (.d (.i .i64 0))), (0, (.d (.sl 3 (p0.map cGValue)))), (1, (.d (.i .i64 p1)))], []⟩) (by kernel_rfl) ?_
    refine nil_in ?_
    refine next_in ?_
    refine block_in ?_
    exact loop_go (s' := stwSzValueS_L0 p0 (IntKind.wrap .i64 (p1 - (p0.length : Int))) 0) (wk_ren [] (by kernel_rfl) (er_cons (vr_same (by kernel_rfl) (by kernel_rfl)) (er_cons (vr_same (by kernel_rfl) (by kernel_rfl)) (er_cons (vr_same (by kernel_rfl) (by kernel_rfl)) (er_nil)))) (br_nil)) (OK_wSzValueS_L0 p0 (IntKind.wrap .i64 (p1 - (p0.length : Int))) 0 _ h)
theorem OK_wToValue (p0 : GValue) : FOk Try.prog 23 [(vGValue p0)] (fun y => (vGValue y)) (wToValue p0) := by
  intro r h
  rw [wToValue] at h
  refine acalls_of_fn trwToValue (Nat.le_of_ble_eq_true rfl) (by simp) ?_
  show avc Try.prog acwToValue (qwToValue _) ⟨[(0, (vGValue p0))], []⟩
  delta acwToValue
  refine seq_in ?_
  refine ops_in ?_
  refine sts_ok 2 (s' := ⟨[(2, (.ptr 2 0)), (1, (.ptr 1 0)), (0, (vGValue p0))], [(2, [(.d (.i .i64 0)), (.d (.i .i64 0)), (.d (.s (bs [])))]), (1, [(.d (.i .i64 p0.kind)), (.d (.i .i64 p0.num)), (.d (.s (bs p0.text)))])]⟩) (by kernel_rfl) ?_
  refine nil_in ?_
  refine next_in ?_
  refine seq_in ?_
  refine ops_in ?_
  refine sts_ok 1 (s' := ⟨[(3, (.ptr 3 0)), (2, (.ptr 2 0)), (1, (.ptr 1 0)), (0, (vGValue p0))], [(3, [(.d (.i .i64 0)), (.d (.i .i64 0)), (.d (.s (bs [])))]), (2, [(.d (.i .i64 0)), (.d (.i .i64 0)), (.d (.s (bs [])))]), (1, [(.d (.i .i64 p0.kind)), (.d (.i .i64 p0.num)), (.d (.s (bs p0.text)))])]⟩) (by kernel_rfl) ?_
  refine nil_in ?_
  refine next_in ?_
  refine seq_in ?_
  refine ops_in ?_
  refine sts_ok 4 (s' := ⟨[(6, (.ptr 3 0)), (5, (.d (.i .i64 p0.kind))), (4, (.ptr 1 0)), (3, (.ptr 3 0)), (2, (.ptr 2 0)), (1, (.ptr 1 0)), (0, (vGValue p0))], [(3, [(.d (.i .i64 p0.kind)), (.d (.i .i64 0)), (.d (.s (bs [])))]), (2, [(.d (.i .i64 0)), (.d (.i .i64 0)), (.d (.s (bs [])))]), (1, [(.d (.i .i64 p0.kind)), (.d (.i .i64 p0.num)), (.d (.s (bs p0.text)))])]⟩) (by kernel_rfl) ?_
  refine nil_in ?_
  refine next_in ?_
  refine seq_in ?_
  refine ops_in ?_
  refine sts_ok 4 (s' := ⟨[(9, (.ptr 3 1)), (8, (.d (.i .i64 p0.num))), (7, (.ptr 1 1)), (6, (.ptr 3 0)), (5, (.d (.i .i64 p0.kind))), (4, (.ptr 1 0)), (3, (.ptr 3 0)), (2, (.ptr 2 0)), (1, (.ptr 1 0)), (0, (vGValue p0))], [(3, [(.d (.i .i64 p0.kind)), (.d (.i .i64 p0.num)), (.d (.s (bs [])))]), (2, [(.d (.i .i64 0)), (.d (.i .i64 0)), (.d (.s (bs [])))]), (1, [(.d (.i .i64 p0.kind)), (.d (.i .i64 p0.num)), (.d (.s (bs p0.text)))])]⟩) (by kernel_rfl) ?_
  refine nil_in ?_
  refine next_in ?_
  refine seq_in ?_
  refine ops_in ?_
  refine sts_ok 4 (s' := ⟨[(12, (.ptr 3 2)), (11, (.d (.s (bs p0.text)))), (10, (.ptr 1 2)), (9, (.ptr 3 1)), (8, (.d (.i .i64 p0.num))), (7, (.ptr 1 1)), (6, (.ptr 3 0)), (5, (.d (.i .i64 p0.kind))), (4, (.ptr 1 0)), (3, (.ptr 3 0)), (2, (.ptr 2 0)), (1, (.ptr 1 0)), (0, (vGValue p0))], [(3, [(.d (.i .i64 p0.kind)), (.d (.i .i64 p0.num)), (.d (.s (bs p0.text)))]), (2, [(.d (.i .i64 0)), (.d (.i .i64 0)), (.d (.s (bs [])))]), (1, [(.d (.i .i64 p0.kind)), (.d (.i .i64 p0.num)), (.d (.s (bs p0.text)))])]⟩) (by kernel_rfl) ?_
  refine nil_in ?_
  refine next_in ?_
  refine seq_in ?_
  refine ops_in ?_
  refine sts_ok 2 (s' := ⟨[(13, (vGValue p0)), (12, (.ptr 3 2)), (11, (.d (.s (bs p0.text)))), (10, (.ptr 1 2)), (9, (.ptr 3 1)), (8, (.d (.i .i64 p0.num))), (7, (.ptr 1 1)), (6, (.ptr 3 0)), (5, (.d (.i .i64 p0.kind))), (4, (.ptr 1 0)), (3, (.ptr 3 0)), (2, (.ptr 2 0)), (1, (.ptr 1 0)), (0, (vGValue p0))], [(3, [(.d (.i .i64 p0.kind)), (.d (.i .i64 p0.num)), (.d (.s (bs p0.text)))]), (2, [(.d (.i .i64 p0.kind)), (.d (.i .i64 p0.num)), (.d (.s (bs p0.text)))]), (1, [(.d (.i .i64 p0.kind)), (.d (.i .i64 p0.num)), (.d (.s (bs p0.text)))])]⟩) (by kernel_rfl) ?_
  refine nil_in ?_
  refine next_in ?_
  refine ret_in ?_
  have h := Option.some.inj h; subst h
  exact ret1_step (v := (vGValue p0)) (by kernel_rfl) (by kernel_rfl) (by kernel_rfl)
theorem OKs_wToValueS_L0 (p0 : (List GValue)) : (∀ (x4 : Int) (b7_0 : (List GValue)) (r : (List GValue)), wToValueS_L0 p0 x4 b7_0 = some r → avc Try.prog acwToValueS_L0 (qwToValueS_1 r) (stwToValueS_L0 p0 x4 b7_0)) := by
  refine wToValueS_L0.partial_correctness p0 (fun x4 b7_0 r => avc Try.prog acwToValueS_L0 (qwToValueS_1 r) (stwToValueS_L0 p0 x4 b7_0)) ?_
  · intro F_wToValueS_L0 OK_wToValueS_L0 x4 b7_0 r h
    delta acwToValueS_L0
    refine loop_unroll ?_
    refine seq_in ?_
    refine seq_in ?_
    refine ops_in ?_
    refine sts_ok 2 (s' := ⟨(9, (.d (.sl 3 (p0.map cGValue)))) :: (8, (.d (.i .i64 x4))) :: (stwToValueS_L0 p0 x4 b7_0).env, (stwToValueS_L0 p0 x4 b7_0).bx⟩) (by kernel_rfl) ?_
    refine p_step (v' := (.d (.i .i64 (p0.length : Int)))) rfl rfl (vop_len (sz := 3) (l := p0) (f := cGValue) (by kernel_rfl) (by kernel_rfl)) ?_
    refine sts_ok 1 (s' := ⟨(11, (.d (.b (decide (x4 < (p0.length : Int)))))) :: (10, (.d (.i .i64 (p0.length : Int)))) :: (9, (.d (.sl 3 (p0.map cGValue)))) :: (8, (.d (.i .i64 x4))) :: (stwToValueS_L0 p0 x4 b7_0).env, (stwToValueS_L0 p0 x4 b7_0).bx⟩) (by kernel_rfl) ?_
    refine nil_in ?_
    refine next_in ?_
    refine cond_step h (by kernel_rfl) ?_ ?_
    · clear h; intro h
      refine skip_in ?_
      refine next_in ?_
      refine seq_in ?_
      refine block_in ?_
      refine ops_in ?_
      refine sts_ok 4 (s' := ⟨(17, (.d (.i .i64 x4))) :: (16, (.d (.sl 3 (p0.map cGValue)))) :: (15, (.d (.i .i64 x4))) :: (14, (.msl 7 3 0 b7_0.length b7_0.length)) :: (11, (.d (.b (decide (x4 < (p0.length : Int)))))) :: (10, (.d (.i .i64 (p0.length : Int)))) :: (9, (.d (.sl 3 (p0.map cGValue)))) :: (8, (.d (.i .i64 x4))) :: (stwToValueS_L0 p0 x4 b7_0).env, (stwToValueS_L0 p0 x4 b7_0).bx⟩) (by kernel_rfl) ?_
      refine v_step (m := idx p0 x4) (v' := fun y => (.rp [(.i .i64 y.kind), (.i .i64 y.num), (.s (bs y.text))])) h rfl rfl (fun y hy => vop_ia (l := p0) (f := cGValue) (g := cGValue) (k := .i64) hy (fun _ => rfl) (by kernel_rfl) (by kernel_rfl) (by kernel_rfl)) ?_
      clear h; intro y2 h
      refine sts_ok 1 (s' := ⟨(19, (vGValue y2)) :: (18, (.rp [(.i .i64 y2.kind), (.i .i64 y2.num), (.s (bs y2.text))])) :: (17, (.d (.i .i64 x4))) :: (16, (.d (.sl 3 (p0.map cGValue)))) :: (15, (.d (.i .i64 x4))) :: (14, (.msl 7 3 0 b7_0.length b7_0.length)) :: (11, (.d (.b (decide (x4 < (p0.length : Int)))))) :: (10, (.d (.i .i64 (p0.length : Int)))) :: (9, (.d (.sl 3 (p0.map cGValue)))) :: (8, (.d (.i .i64 x4))) :: (stwToValueS_L0 p0 x4 b7_0).env, (stwToValueS_L0 p0 x4 b7_0).bx⟩) (by kernel_rfl) ?_
      refine call_step (m := wToValue y2) (args := [(vGValue y2)]) (v' := (fun y => (vGValue y))) h (OK_wToValue y2) (by kernel_rfl) (by kernel_rfl) (fun _ => rfl) ?_
      clear h; intro y3 h
      refine v_step (m := idx b7_0 x4) (v' := fun y => (.ptr 7 ((0 + (x4).toNat) * 3))) h rfl rfl (fun y hy => vop_iaE (l := b7_0) (k := .i64) hy (by kernel_rfl) (by kernel_rfl) (by kernel_rfl)) ?_
      clear h; intro y4 h
      refine sti_step (b := 7) (i := x4) (l := b7_0) (v := y3) (f := cGValue) (u := (vGValue y3)) (T := fun y m => ⟨[(21, (.ptr 7 ((0 + (x4).toNat) * 3))), (20, (vGValue y3)), (19, (vGValue y2)), (18, (.rp [(.i .i64 y2.kind), (.i .i64 y2.num), (.s (bs y2.text))])), (17, (.d (.i .i64 x4))), (16, (.d (.sl 3 (p0.map cGValue)))), (15, (.d (.i .i64 x4))), (14, (.msl 7 3 0 m m)), (11, (.d (.b (decide (x4 < (p0.length : Int)))))), (10, (.d (.i .i64 (p0.length : Int)))), (9, (.d (.sl 3 (p0.map cGValue)))), (8, (.d (.i .i64 x4))), (0, (.d (.sl 3 (p0.map cGValue)))), (3, (.msl 7 3 0 m m)), (4, (.d (.i .i64 x4)))], [(7, rowsV (y.map cGValue))]⟩) h (by kernel_rfl) (by kernel_rfl) (by kernel_rfl) (by kernel_rfl) (fun y => (congrArg List.length ((fun _ => rfl) y)).trans rfl) (by kernel_rfl) (fun y => by kernel_rfl) ?_
      clear h; intro y5 h
      refine nil_in ?_
      refine blockK_norm ?_
      refine next_in ?_
      refine ops_in ?_
      refine sts_ok 3 (s' := ⟨[(4, (.d (.i .i64 (IntKind.wrap .i64 (x4 + 1))))), (13, (.d (.i .i64 (IntKind.wrap .i64 (x4 + 1))))), (12, (.d (.i .i64 x4))), (21, (.ptr 7 ((0 + (x4).toNat) * 3))), (20, (vGValue y3)), (19, (vGValue y2)), (18, (.rp [(.i .i64 y2.kind), (.i .i64 y2.num), (.s (bs y2.text))])), (17, (.d (.i .i64 x4))), (16, (.d (.sl 3 (p0.map cGValue)))), (15, (.d (.i .i64 x4))), (14, (.msl 7 3 0 y5.length y5.length)), (11, (.d (.b (decide (x4 < (p0.length : Int)))))), (10, (.d (.i .i64 (p0.length : Int)))), (9, (.d (.sl 3 (p0.map cGValue)))), (8, (.d (.i .i64 x4))), (0, (.d (.sl 3 (p0.map cGValue)))), (3, (.msl 7 3 0 y5.length y5.length)), (4, (.d (.i .i64 x4)))], [(7, rowsV (y5.map cGValue))]⟩) (by kernel_rfl) ?_
      refine nil_in ?_
      exact loop_back (s' := stwToValueS_L0 p0 (IntKind.wrap .i64 (x4 + 1)) y5) (wk_ren [] (by kernel_rfl) (er_cons (vr_same (by kernel_rfl) (by kernel_rfl)) (er_cons (vr_same (by kernel_rfl) (by kernel_rfl)) (er_cons (vr_same (by kernel_rfl) (by kernel_rfl)) (er_nil)))) (br_rows (by kernel_rfl) (br_nil))) (OK_wToValueS_L0 (IntKind.wrap .i64 (x4 + 1)) y5 _ h)
    · clear h; intro h
      refine exit_in ?_
      refine thenK_exit ?_
      refine thenK_exit ?_
      refine blockK_here ?_
      refine next_in ?_
      refine seq_in ?_
      refine ops_in ?_
      refine sts_ok 2 (s' := ⟨(2, (.msl 7 3 0 b7_0.length b7_0.length)) :: (22, (.msl 7 3 0 b7_0.length b7_0.length)) :: (11, (.d (.b (decide (x4 < (p0.length : Int)))))) :: (10, (.d (.i .i64 (p0.length : Int)))) :: (9, (.d (.sl 3 (p0.map cGValue)))) :: (8, (.d (.i .i64 x4))) :: (stwToValueS_L0 p0 x4 b7_0).env, (stwToValueS_L0 p0 x4 b7_0).bx⟩) (by kernel_rfl) ?_
      refine nil_in ?_
      refine next_in ?_
      refine ret_frz (n := 7) (sz := 3) (l := b7_0) (f := cGValue) (s' := ⟨[(2, (.d (.sl 3 (b7_0.map cGValue))))], []⟩) (by decide) (fun y => (congrArg List.length ((fun _ => rfl) y)).trans rfl) (by kernel_rfl) (⟨.inr ⟨b7_0.length, b7_0.length, by kernel_rfl, lms b7_0 _, by kernel_rfl⟩, trivial⟩) (trivial) ?_
      refine ret_in ?_
      have h := Option.some.inj h; subst h
      exact ret1_step (v := (.d (.sl 3 (b7_0.map cGValue)))) (by kernel_rfl) (by kernel_rfl) (by kernel_rfl)
theorem OK_wToValueS_L0 (p0 : (List GValue)) (x4 : Int) (b7_0 : (List GValue)) (r : (List GValue)) (h : wToValueS_L0 p0 x4 b7_0 = some r) : avc Try.prog acwToValueS_L0 (qwToValueS_1 r) (stwToValueS_L0 p0 x4 b7_0) := (OKs_wToValueS_L0 p0) x4 b7_0 r h
theorem OK_wToValueS (p0 : (List GValue)) : FOk Try.prog 32 [(.d (.sl 3 (p0.map cGValue)))] (fun y => (.d (.sl 3 (y.map cGValue)))) (wToValueS p0) := by
  intro r h
  rw [wToValueS] at h
  refine acalls_of_fn trwToValueS (Nat.le_of_ble_eq_true rfl) (by simp) ?_
  show avc Try.prog acwToValueS (qwToValueS _) ⟨[(0, (.d (.sl 3 (p0.map cGValue))))], []⟩
  delta acwToValueS
  refine seq_in ?_
  refine ops_in ?_
  refine sts_ok 1 (s' := ⟨[(2, (.nil 3)), (0, (.d (.sl 3 (p0.map cGValue))))], []⟩) (by kernel_rfl) ?_
  refine nil_in ?_
  refine next_in ?_
  refine seq_in ?_
  refine ops_in ?_
  refine sts_ok 1 (s' := ⟨[(5, (.d (.sl 3 (p0.map cGValue)))), (2, (.nil 3)), (0, (.d (.sl 3 (p0.map cGValue))))], []⟩) (by kernel_rfl) ?_
  refine p_step (v' := (.d (.i .i64 (p0.length : Int)))) rfl rfl (vop_len (sz := 3) (l := p0) (f := cGValue) (by kernel_rfl) (by kernel_rfl)) ?_
  refine mks_step (k := .i64) (k' := .i64) (z := ((GValue.mk 0 0 []) : GValue)) (f := cGValue) (S' := fun y => ⟨[(7, (.msl 7 3 0 y.length y.length)), (6, (.d (.i .i64 (p0.length : Int)))), (5, (.d (.sl 3 (p0.map cGValue)))), (2, (.nil 3)), (0, (.d (.sl 3 (p0.map cGValue))))], [(7, rowsV (y.map cGValue))]⟩) h (by kernel_rfl) (by kernel_rfl) (by kernel_rfl) (by kernel_rfl) (by kernel_rfl) (fun y => by kernel_rfl) ?_
  clear h; intro y1 h
  refine sts_ok 1 (s' := ⟨[(3, (.msl 7 3 0 y1.length y1.length)), (7, (.msl 7 3 0 y1.length y1.length)), (6, (.d (.i .i64 (p0.length : Int)))), (5, (.d (.sl 3 (p0.map cGValue)))), (2, (.nil 3)), (0, (.d (.sl 3 (p0.map cGValue))))], [(7, rowsV (y1.map cGValue))]⟩) (by kernel_rfl) ?_
  refine nil_in ?_
  refine next_in ?_
  refine seq_in ?_
  refine seq_in ?_
  refine ops_in ?_
  refine sts_ok 1 (s' := ⟨[(4, (.d (.i .i64 0))), (3, (.msl 7 3 0 y1.length y1.length)), (7, (.msl 7 3 0 y1.length y1.length)), (6, (.d (.i .i64 (p0.length : Int)))), (5, (.d (.sl 3 (p0.map cGValue)))), (2, (.nil 3)), (0, (.d (.sl 3 (p0.map cGValue))))], [(7, rowsV (y1.map cGValue))]⟩) (by kernel_rfl) ?_
  refine nil_in ?_
  refine next_in ?_
  refine block_in ?_
  exact loop_go (s' := stwToValueS_L0 p0 0 y1) (wk_ren [] (by kernel_rfl) (er_cons (vr_same (by kernel_rfl) (by kernel_rfl)) (er_cons (vr_same (by kernel_rfl) (by kernel_rfl)) (er_cons (vr_same (by kernel_rfl) (by kernel_rfl)) (er_nil)))) (br_rows (by kernel_rfl) (br_nil))) (OK_wToValueS_L0 p0 0 y1 _ h)
theorem OK_wFnExactWithin (p0 : GValue) (p1 : (List GValue)) : FOk Try.prog 6 [(vGValue p0), (.d (.sl 3 (p1.map cGValue)))] (fun y => (.d (.b y))) (wFnExactWithin p0 p1) := by
  intro r h
  rw [wFnExactWithin] at h
  refine acalls_of_fn trwFnExactWithin (Nat.le_of_ble_eq_true rfl) (by simp) ?_
  show avc Try.prog acwFnExactWithin (qwFnExactWithin _) ⟨[(0, (vGValue p0)), (1, (.d (.sl 3 (p1.map cGValue))))], []⟩
  delta acwFnExactWithin
  refine seq_in ?_
  refine ops_in ?_
  refine sts_ok 2 (s' := ⟨[(4, (.d (.b false))), (2, (.ptr 2 0)), (0, (vGValue p0)), (1, (.d (.sl 3 (p1.map cGValue))))], [(2, [(.d (.i .i64 p0.kind)), (.d (.i .i64 p0.num)), (.d (.s (bs p0.text)))])]⟩) (by kernel_rfl) ?_
  refine nil_in ?_
  refine next_in ?_
  refine seq_in ?_
  refine ops_in ?_
  refine sts_ok 1 (s' := ⟨[(5, (.d (.i .i64 1048576))), (4, (.d (.b false))), (2, (.ptr 2 0)), (0, (vGValue p0)), (1, (.d (.sl 3 (p1.map cGValue))))], [(2, [(.d (.i .i64 p0.kind)), (.d (.i .i64 p0.num)), (.d (.s (bs p0.text)))])]⟩) (by kernel_rfl) ?_
  refine nil_in ?_
  refine next_in ?_
  refine seq_in ?_
  refine ops_in ?_
  refine sts_ok 2 (s' := ⟨[(12, (.d (.i .i64 1048576))), (11, (vGValue p0)), (5, (.d (.i .i64 1048576))), (4, (.d (.b false))), (2, (.ptr 2 0)), (0, (vGValue p0)), (1, (.d (.sl 3 (p1.map cGValue))))], [(2, [(.d (.i .i64 p0.kind)), (.d (.i .i64 p0.num)), (.d (.s (bs p0.text)))])]⟩) (by kernel_rfl) ?_
  refine call_step (m := wSzValue p0 1048576) (args := [(vGValue p0), (.d (.i .i64 1048576))]) (v' := (fun y => (.d (.i .i64 y)))) h (OK_wSzValue p0 1048576) (by kernel_rfl) (by kernel_rfl) (fun _ => rfl) ?_
  clear h; intro y1 h
  refine sts_ok 1 (s' := ⟨[(5, (.d (.i .i64 y1))), (13, (.d (.i .i64 y1))), (12, (.d (.i .i64 1048576))), (11, (vGValue p0)), (5, (.d (.i .i64 1048576))), (4, (.d (.b false))), (2, (.ptr 2 0)), (0, (vGValue p0)), (1, (.d (.sl 3 (p1.map cGValue))))], [(2, [(.d (.i .i64 p0.kind)), (.d (.i .i64 p0.num)), (.d (.s (bs p0.text)))])]⟩) (by kernel_rfl) ?_
  refine nil_in ?_
  refine next_in ?_
  refine seq_in ?_
  refine seq_in ?_
  refine ops_in ?_
  refine sts_ok 2 (s' := ⟨[(15, (.d (.b (decide (y1 < 0))))), (14, (.d (.i .i64 y1))), (5, (.d (.i .i64 y1))), (13, (.d (.i .i64 y1))), (12, (.d (.i .i64 1048576))), (11, (vGValue p0)), (5, (.d (.i .i64 1048576))), (4, (.d (.b false))), (2, (.ptr 2 0)), (0, (vGValue p0)), (1, (.d (.sl 3 (p1.map cGValue))))], [(2, [(.d (.i .i64 p0.kind)), (.d (.i .i64 p0.num)), (.d (.s (bs p0.text)))])]⟩) (by kernel_rfl) ?_
  refine nil_in ?_
  refine next_in ?_
  refine cond_step h (by kernel_rfl) ?_ ?_
  · clear h; intro h
    refine seq_in ?_
    refine ops_in ?_
    refine sts_ok 1 (s' := ⟨[(4, (.d (.b true))), (15, (.d (.b (decide (y1 < 0))))), (14, (.d (.i .i64 y1))), (5, (.d (.i .i64 y1))), (13, (.d (.i .i64 y1))), (12, (.d (.i .i64 1048576))), (11, (vGValue p0)), (5, (.d (.i .i64 1048576))), (4, (.d (.b false))), (2, (.ptr 2 0)), (0, (vGValue p0)), (1, (.d (.sl 3 (p1.map cGValue))))], [(2, [(.d (.i .i64 p0.kind)), (.d (.i .i64 p0.num)), (.d (.s (bs p0.text)))])]⟩) (by kernel_rfl) ?_
    refine nil_in ?_
    refine next_in ?_
    refine ret_in ?_
    refine thenK_ret ?_
    have h := Option.some.inj h; subst h
    exact ret1_step (v := (.d (.b true))) (by kernel_rfl) (by kernel_rfl) (by kernel_rfl)
  · clear h; intro h
    refine skip_in ?_
    refine next_in ?_
    refine seq_in ?_
    refine ops_in ?_
    refine sts_ok 2 (s' := ⟨[(17, (.d (.i .i64 y1))), (16, (.d (.sl 3 (p1.map cGValue)))), (15, (.d (.b (decide (y1 < 0))))), (14, (.d (.i .i64 y1))), (5, (.d (.i .i64 y1))), (13, (.d (.i .i64 y1))), (12, (.d (.i .i64 1048576))), (11, (vGValue p0)), (5, (.d (.i .i64 1048576))), (4, (.d (.b false))), (2, (.ptr 2 0)), (0, (vGValue p0)), (1, (.d (.sl 3 (p1.map cGValue))))], [(2, [(.d (.i .i64 p0.kind)), (.d (.i .i64 p0.num)), (.d (.s (bs p0.text)))])]⟩) (by kernel_rfl) ?_
    refine call_step (m := wSzValueS p1 y1) (args := [(.d (.sl 3 (p1.map cGValue))), (.d (.i .i64 y1))]) (v' := (fun y => (.d (.i .i64 y)))) h (OK_wSzValueS p1 y1) (by kernel_rfl) (by kernel_rfl) (fun _ => rfl) ?_
    clear h; intro y2 h
    refine sts_ok 1 (s' := ⟨[(5, (.d (.i .i64 y2))), (18, (.d (.i .i64 y2))), (17, (.d (.i .i64 y1))), (16, (.d (.sl 3 (p1.map cGValue)))), (15, (.d (.b (decide (y1 < 0))))), (14, (.d (.i .i64 y1))), (5, (.d (.i .i64 y1))), (13, (.d (.i .i64 y1))), (12, (.d (.i .i64 1048576))), (11, (vGValue p0)), (5, (.d (.i .i64 1048576))), (4, (.d (.b false))), (2, (.ptr 2 0)), (0, (vGValue p0)), (1, (.d (.sl 3 (p1.map cGValue))))], [(2, [(.d (.i .i64 p0.kind)), (.d (.i .i64 p0.num)), (.d (.s (bs p0.text)))])]⟩) (by kernel_rfl) ?_
    refine nil_in ?_
    refine next_in ?_
    refine seq_in ?_
    refine seq_in ?_
    refine ops_in ?_
    refine sts_ok 2 (s' := ⟨[(20, (.d (.b (decide (y2 < 0))))), (19, (.d (.i .i64 y2))), (5, (.d (.i .i64 y2))), (18, (.d (.i .i64 y2))), (17, (.d (.i .i64 y1))), (16, (.d (.sl 3 (p1.map cGValue)))), (15, (.d (.b (decide (y1 < 0))))), (14, (.d (.i .i64 y1))), (5, (.d (.i .i64 y1))), (13, (.d (.i .i64 y1))), (12, (.d (.i .i64 1048576))), (11, (vGValue p0)), (5, (.d (.i .i64 1048576))), (4, (.d (.b false))), (2, (.ptr 2 0)), (0, (vGValue p0)), (1, (.d (.sl 3 (p1.map cGValue))))], [(2, [(.d (.i .i64 p0.kind)), (.d (.i .i64 p0.num)), (.d (.s (bs p0.text)))])]⟩) (by kernel_rfl) ?_
    refine nil_in ?_
    refine next_in ?_
    refine cond_step h (by kernel_rfl) ?_ ?_
    · clear h; intro h
      refine seq_in ?_
      refine ops_in ?_
      refine sts_ok 1 (s' := ⟨[(4, (.d (.b true))), (20, (.d (.b (decide (y2 < 0))))), (19, (.d (.i .i64 y2))), (5, (.d (.i .i64 y2))), (18, (.d (.i .i64 y2))), (17, (.d (.i .i64 y1))), (16, (.d (.sl 3 (p1.map cGValue)))), (15, (.d (.b (decide (y1 < 0))))), (14, (.d (.i .i64 y1))), (5, (.d (.i .i64 y1))), (13, (.d (.i .i64 y1))), (12, (.d (.i .i64 1048576))), (11, (vGValue p0)), (5, (.d (.i .i64 1048576))), (4, (.d (.b false))), (2, (.ptr 2 0)), (0, (vGValue p0)), (1, (.d (.sl 3 (p1.map cGValue))))], [(2, [(.d (.i .i64 p0.kind)), (.d (.i .i64 p0.num)), (.d (.s (bs p0.text)))])]⟩) (by kernel_rfl) ?_
      refine nil_in ?_
      refine next_in ?_
      refine ret_in ?_
      refine thenK_ret ?_
      have h := Option.some.inj h; subst h
      exact ret1_step (v := (.d (.b true))) (by kernel_rfl) (by kernel_rfl) (by kernel_rfl)
    · clear h; intro h
      refine skip_in ?_
      refine next_in ?_
      refine seq_in ?_
      refine ops_in ?_
      refine sts_ok 1 (s' := ⟨[(22, (vGValue p0)), (20, (.d (.b (decide (y2 < 0))))), (19, (.d (.i .i64 y2))), (5, (.d (.i .i64 y2))), (18, (.d (.i .i64 y2))), (17, (.d (.i .i64 y1))), (16, (.d (.sl 3 (p1.map cGValue)))), (15, (.d (.b (decide (y1 < 0))))), (14, (.d (.i .i64 y1))), (5, (.d (.i .i64 y1))), (13, (.d (.i .i64 y1))), (12, (.d (.i .i64 1048576))), (11, (vGValue p0)), (5, (.d (.i .i64 1048576))), (4, (.d (.b false))), (2, (.ptr 2 0)), (0, (vGValue p0)), (1, (.d (.sl 3 (p1.map cGValue))))], [(2, [(.d (.i .i64 p0.kind)), (.d (.i .i64 p0.num)), (.d (.s (bs p0.text)))])]⟩) (by kernel_rfl) ?_
      refine call_step (m := wToValue p0) (args := [(vGValue p0)]) (v' := (fun y => (vGValue y))) h (OK_wToValue p0) (by kernel_rfl) (by kernel_rfl) (fun _ => rfl) ?_
      clear h; intro y3 h
      refine sts_ok 1 (s' := ⟨[(24, (.d (.sl 3 (p1.map cGValue)))), (23, (vGValue y3)), (22, (vGValue p0)), (20, (.d (.b (decide (y2 < 0))))), (19, (.d (.i .i64 y2))), (5, (.d (.i .i64 y2))), (18, (.d (.i .i64 y2))), (17, (.d (.i .i64 y1))), (16, (.d (.sl 3 (p1.map cGValue)))), (15, (.d (.b (decide (y1 < 0))))), (14, (.d (.i .i64 y1))), (5, (.d (.i .i64 y1))), (13, (.d (.i .i64 y1))), (12, (.d (.i .i64 1048576))), (11, (vGValue p0)), (5, (.d (.i .i64 1048576))), (4, (.d (.b false))), (2, (.ptr 2 0)), (0, (vGValue p0)), (1, (.d (.sl 3 (p1.map cGValue))))], [(2, [(.d (.i .i64 p0.kind)), (.d (.i .i64 p0.num)), (.d (.s (bs p0.text)))])]⟩) (by kernel_rfl) ?_
      refine call_step (m := wToValueS p1) (args := [(.d (.sl 3 (p1.map cGValue)))]) (v' := (fun y => (.d (.sl 3 (y.map cGValue))))) h (OK_wToValueS p1) (by kernel_rfl) (by kernel_rfl) (fun _ => rfl) ?_
      clear h; intro y4 h
      refine call_step (m := sWithin y3 y4) (args := [(vGValue y3), (.d (.sl 3 (y4.map cGValue)))]) (v' := (fun y => (.tup [(vGValue y.1), (.d (.i .i64 y.2))]))) h (OK_sWithin y3 y4) (by kernel_rfl) (by kernel_rfl) (fun _ => rfl) ?_
      clear h; intro y5 h
      refine sts_ok 6 (s' := ⟨[(7, (.d (.i .i64 y5.2))), (6, (.ptr 6 0)), (28, (.d (.i .i64 y5.2))), (27, (vGValue y5.1)), (21, (.tup [(vGValue y5.1), (.d (.i .i64 y5.2))])), (26, (.tup [(vGValue y5.1), (.d (.i .i64 y5.2))])), (25, (.d (.sl 3 (y4.map cGValue)))), (24, (.d (.sl 3 (p1.map cGValue)))), (23, (vGValue y3)), (22, (vGValue p0)), (20, (.d (.b (decide (y2 < 0))))), (19, (.d (.i .i64 y2))), (5, (.d (.i .i64 y2))), (18, (.d (.i .i64 y2))), (17, (.d (.i .i64 y1))), (16, (.d (.sl 3 (p1.map cGValue)))), (15, (.d (.b (decide (y1 < 0))))), (14, (.d (.i .i64 y1))), (5, (.d (.i .i64 y1))), (13, (.d (.i .i64 y1))), (12, (.d (.i .i64 1048576))), (11, (vGValue p0)), (5, (.d (.i .i64 1048576))), (4, (.d (.b false))), (2, (.ptr 2 0)), (0, (vGValue p0)), (1, (.d (.sl 3 (p1.map cGValue))))], [(6, [(.d (.i .i64 y5.1.kind)), (.d (.i .i64 y5.1.num)), (.d (.s (bs y5.1.text)))]), (2, [(.d (.i .i64 p0.kind)), (.d (.i .i64 p0.num)), (.d (.s (bs p0.text)))])]⟩) (by kernel_rfl) ?_
      refine nil_in ?_
      refine next_in ?_
      refine seq_in ?_
      refine ops_in ?_
      refine sts_ok 1 (s' := ⟨[(29, (.d (.sl 3 (p1.map cGValue)))), (7, (.d (.i .i64 y5.2))), (6, (.ptr 6 0)), (28, (.d (.i .i64 y5.2))), (27, (vGValue y5.1)), (21, (.tup [(vGValue y5.1), (.d (.i .i64 y5.2))])), (26, (.tup [(vGValue y5.1), (.d (.i .i64 y5.2))])), (25, (.d (.sl 3 (y4.map cGValue)))), (24, (.d (.sl 3 (p1.map cGValue)))), (23, (vGValue y3)), (22, (vGValue p0)), (20, (.d (.b (decide (y2 < 0))))), (19, (.d (.i .i64 y2))), (5, (.d (.i .i64 y2))), (18, (.d (.i .i64 y2))), (17, (.d (.i .i64 y1))), (16, (.d (.sl 3 (p1.map cGValue)))), (15, (.d (.b (decide (y1 < 0))))), (14, (.d (.i .i64 y1))), (5, (.d (.i .i64 y1))), (13, (.d (.i .i64 y1))), (12, (.d (.i .i64 1048576))), (11, (vGValue p0)), (5, (.d (.i .i64 1048576))), (4, (.d (.b false))), (2, (.ptr 2 0)), (0, (vGValue p0)), (1, (.d (.sl 3 (p1.map cGValue))))], [(6, [(.d (.i .i64 y5.1.kind)), (.d (.i .i64 y5.1.num)), (.d (.s (bs y5.1.text)))]), (2, [(.d (.i .i64 p0.kind)), (.d (.i .i64 p0.num)), (.d (.s (bs p0.text)))])]⟩) (by kernel_rfl) ?_
      refine call_step (m := wToValueS p1) (args := [(.d (.sl 3 (p1.map cGValue)))]) (v' := (fun y => (.d (.sl 3 (y.map cGValue))))) h (OK_wToValueS p1) (by kernel_rfl) (by kernel_rfl) (fun _ => rfl) ?_
      clear h; intro y6 h
      refine sts_ok 1 (s' := ⟨[(8, (.d (.sl 3 (y6.map cGValue)))), (30, (.d (.sl 3 (y6.map cGValue)))), (29, (.d (.sl 3 (p1.map cGValue)))), (7, (.d (.i .i64 y5.2))), (6, (.ptr 6 0)), (28, (.d (.i .i64 y5.2))), (27, (vGValue y5.1)), (21, (.tup [(vGValue y5.1), (.d (.i .i64 y5.2))])), (26, (.tup [(vGValue y5.1), (.d (.i .i64 y5.2))])), (25, (.d (.sl 3 (y4.map cGValue)))), (24, (.d (.sl 3 (p1.map cGValue)))), (23, (vGValue y3)), (22, (vGValue p0)), (20, (.d (.b (decide (y2 < 0))))), (19, (.d (.i .i64 y2))), (5, (.d (.i .i64 y2))), (18, (.d (.i .i64 y2))), (17, (.d (.i .i64 y1))), (16, (.d (.sl 3 (p1.map cGValue)))), (15, (.d (.b (decide (y1 < 0))))), (14, (.d (.i .i64 y1))), (5, (.d (.i .i64 y1))), (13, (.d (.i .i64 y1))), (12, (.d (.i .i64 1048576))), (11, (vGValue p0)), (5, (.d (.i .i64 1048576))), (4, (.d (.b false))), (2, (.ptr 2 0)), (0, (vGValue p0)), (1, (.d (.sl 3 (p1.map cGValue))))], [(6, [(.d (.i .i64 y5.1.kind)), (.d (.i .i64 y5.1.num)), (.d (.s (bs y5.1.text)))]), (2, [(.d (.i .i64 p0.kind)), (.d (.i .i64 p0.num)), (.d (.s (bs p0.text)))])]⟩) (by kernel_rfl) ?_
      refine nil_in ?_
      refine next_in ?_
      refine seq_in ?_
      refine ops_in ?_
      refine sts_ok 1 (s' := ⟨[(32, (vGValue p0)), (8, (.d (.sl 3 (y6.map cGValue)))), (30, (.d (.sl 3 (y6.map cGValue)))), (29, (.d (.sl 3 (p1.map cGValue)))), (7, (.d (.i .i64 y5.2))), (6, (.ptr 6 0)), (28, (.d (.i .i64 y5.2))), (27, (vGValue y5.1)), (21, (.tup [(vGValue y5.1), (.d (.i .i64 y5.2))])), (26, (.tup [(vGValue y5.1), (.d (.i .i64 y5.2))])), (25, (.d (.sl 3 (y4.map cGValue)))), (24, (.d (.sl 3 (p1.map cGValue)))), (23, (vGValue y3)), (22, (vGValue p0)), (20, (.d (.b (decide (y2 < 0))))), (19, (.d (.i .i64 y2))), (5, (.d (.i .i64 y2))), (18, (.d (.i .i64 y2))), (17, (.d (.i .i64 y1))), (16, (.d (.sl 3 (p1.map cGValue)))), (15, (.d (.b (decide (y1 < 0))))), (14, (.d (.i .i64 y1))), (5, (.d (.i .i64 y1))), (13, (.d (.i .i64 y1))), (12, (.d (.i .i64 1048576))), (11, (vGValue p0)), (5, (.d (.i .i64 1048576))), (4, (.d (.b false))), (2, (.ptr 2 0)), (0, (vGValue p0)), (1, (.d (.sl 3 (p1.map cGValue))))], [(6, [(.d (.i .i64 y5.1.kind)), (.d (.i .i64 y5.1.num)), (.d (.s (bs y5.1.text)))]), (2, [(.d (.i .i64 p0.kind)), (.d (.i .i64 p0.num)), (.d (.s (bs p0.text)))])]⟩) (by kernel_rfl) ?_
      refine call_step (m := wToValue p0) (args := [(vGValue p0)]) (v' := (fun y => (vGValue y))) h (OK_wToValue p0) (by kernel_rfl) (by kernel_rfl) (fun _ => rfl) ?_
      clear h; intro y7 h
      refine sts_ok 1 (s' := ⟨[(34, (.d (.sl 3 (y6.map cGValue)))), (33, (vGValue y7)), (32, (vGValue p0)), (8, (.d (.sl 3 (y6.map cGValue)))), (30, (.d (.sl 3 (y6.map cGValue)))), (29, (.d (.sl 3 (p1.map cGValue)))), (7, (.d (.i .i64 y5.2))), (6, (.ptr 6 0)), (28, (.d (.i .i64 y5.2))), (27, (vGValue y5.1)), (21, (.tup [(vGValue y5.1), (.d (.i .i64 y5.2))])), (26, (.tup [(vGValue y5.1), (.d (.i .i64 y5.2))])), (25, (.d (.sl 3 (y4.map cGValue)))), (24, (.d (.sl 3 (p1.map cGValue)))), (23, (vGValue y3)), (22, (vGValue p0)), (20, (.d (.b (decide (y2 < 0))))), (19, (.d (.i .i64 y2))), (5, (.d (.i .i64 y2))), (18, (.d (.i .i64 y2))), (17, (.d (.i .i64 y1))), (16, (.d (.sl 3 (p1.map cGValue)))), (15, (.d (.b (decide (y1 < 0))))), (14, (.d (.i .i64 y1))), (5, (.d (.i .i64 y1))), (13, (.d (.i .i64 y1))), (12, (.d (.i .i64 1048576))), (11, (vGValue p0)), (5, (.d (.i .i64 1048576))), (4, (.d (.b false))), (2, (.ptr 2 0)), (0, (vGValue p0)), (1, (.d (.sl 3 (p1.map cGValue))))], [(6, [(.d (.i .i64 y5.1.kind)), (.d (.i .i64 y5.1.num)), (.d (.s (bs y5.1.text)))]), (2, [(.d (.i .i64 p0.kind)), (.d (.i .i64 p0.num)), (.d (.s (bs p0.text)))])]⟩) (by kernel_rfl) ?_
      refine call_step (m := iWithin y7 y6) (args := [(vGValue y7), (.d (.sl 3 (y6.map cGValue)))]) (v' := (fun y => (.tup [(vGValue y.1), (.d (.i .i64 y.2))]))) h (OK_iWithin y7 y6) (by kernel_rfl) (by kernel_rfl) (fun _ => rfl) ?_
      clear h; intro y8 h
      refine sts_ok 6 (s' := ⟨[(10, (.d (.i .i64 y8.2))), (9, (.ptr 9 0)), (37, (.d (.i .i64 y8.2))), (36, (vGValue y8.1)), (31, (.tup [(vGValue y8.1), (.d (.i .i64 y8.2))])), (35, (.tup [(vGValue y8.1), (.d (.i .i64 y8.2))])), (34, (.d (.sl 3 (y6.map cGValue)))), (33, (vGValue y7)), (32, (vGValue p0)), (8, (.d (.sl 3 (y6.map cGValue)))), (30, (.d (.sl 3 (y6.map cGValue)))), (29, (.d (.sl 3 (p1.map cGValue)))), (7, (.d (.i .i64 y5.2))), (6, (.ptr 6 0)), (28, (.d (.i .i64 y5.2))), (27, (vGValue y5.1)), (21, (.tup [(vGValue y5.1), (.d (.i .i64 y5.2))])), (26, (.tup [(vGValue y5.1), (.d (.i .i64 y5.2))])), (25, (.d (.sl 3 (y4.map cGValue)))), (24, (.d (.sl 3 (p1.map cGValue)))), (23, (vGValue y3)), (22, (vGValue p0)), (20, (.d (.b (decide (y2 < 0))))), (19, (.d (.i .i64 y2))), (5, (.d (.i .i64 y2))), (18, (.d (.i .i64 y2))), (17, (.d (.i .i64 y1))), (16, (.d (.sl 3 (p1.map cGValue)))), (15, (.d (.b (decide (y1 < 0))))), (14, (.d (.i .i64 y1))), (5, (.d (.i .i64 y1))), (13, (.d (.i .i64 y1))), (12, (.d (.i .i64 1048576))), (11, (vGValue p0)), (5, (.d (.i .i64 1048576))), (4, (.d (.b false))), (2, (.ptr 2 0)), (0, (vGValue p0)), (1, (.d (.sl 3 (p1.map cGValue))))], [(9, [(.d (.i .i64 y8.1.kind)), (.d (.i .i64 y8.1.num)), (.d (.s (bs y8.1.text)))]), (6, [(.d (.i .i64 y5.1.kind)), (.d (.i .i64 y5.1.num)), (.d (.s (bs y5.1.text)))]), (2, [(.d (.i .i64 p0.kind)), (.d (.i .i64 p0.num)), (.d (.s (bs p0.text)))])]⟩) (by kernel_rfl) ?_
      refine nil_in ?_
      refine next_in ?_
      refine seq_in ?_
      refine seq_in ?_
      refine ops_in ?_
      refine sts_ok 2 (s' := ⟨[(39, (vGValue y5.1)), (38, (vGValue y8.1)), (10, (.d (.i .i64 y8.2))), (9, (.ptr 9 0)), (37, (.d (.i .i64 y8.2))), (36, (vGValue y8.1)), (31, (.tup [(vGValue y8.1), (.d (.i .i64 y8.2))])), (35, (.tup [(vGValue y8.1), (.d (.i .i64 y8.2))])), (34, (.d (.sl 3 (y6.map cGValue)))), (33, (vGValue y7)), (32, (vGValue p0)), (8, (.d (.sl 3 (y6.map cGValue)))), (30, (.d (.sl 3 (y6.map cGValue)))), (29, (.d (.sl 3 (p1.map cGValue)))), (7, (.d (.i .i64 y5.2))), (6, (.ptr 6 0)), (28, (.d (.i .i64 y5.2))), (27, (vGValue y5.1)), (21, (.tup [(vGValue y5.1), (.d (.i .i64 y5.2))])), (26, (.tup [(vGValue y5.1), (.d (.i .i64 y5.2))])), (25, (.d (.sl 3 (y4.map cGValue)))), (24, (.d (.sl 3 (p1.map cGValue)))), (23, (vGValue y3)), (22, (vGValue p0)), (20, (.d (.b (decide (y2 < 0))))), (19, (.d (.i .i64 y2))), (5, (.d (.i .i64 y2))), (18, (.d (.i .i64 y2))), (17, (.d (.i .i64 y1))), (16, (.d (.sl 3 (p1.map cGValue)))), (15, (.d (.b (decide (y1 < 0))))), (14, (.d (.i .i64 y1))), (5, (.d (.i .i64 y1))), (13, (.d (.i .i64 y1))), (12, (.d (.i .i64 1048576))), (11, (vGValue p0)), (5, (.d (.i .i64 1048576))), (4, (.d (.b false))), (2, (.ptr 2 0)), (0, (vGValue p0)), (1, (.d (.sl 3 (p1.map cGValue))))], [(9, [(.d (.i .i64 y8.1.kind)), (.d (.i .i64 y8.1.num)), (.d (.s (bs y8.1.text)))]), (6, [(.d (.i .i64 y5.1.kind)), (.d (.i .i64 y5.1.num)), (.d (.s (bs y5.1.text)))]), (2, [(.d (.i .i64 p0.kind)), (.d (.i .i64 p0.num)), (.d (.s (bs p0.text)))])]⟩) (by kernel_rfl) ?_
      refine call_step (m := wEqValue y8.1 y5.1) (args := [(vGValue y8.1), (vGValue y5.1)]) (v' := (fun y => (.d (.b y)))) h (OK_wEqValue y8.1 y5.1) (by kernel_rfl) (by kernel_rfl) (fun _ => rfl) ?_
      clear h; intro y9 h
      refine sts_ok 2 (s' := ⟨[(42, (.d (.b (!y9)))), (41, (.d (.b (!y9)))), (40, (.d (.b y9))), (39, (vGValue y5.1)), (38, (vGValue y8.1)), (10, (.d (.i .i64 y8.2))), (9, (.ptr 9 0)), (37, (.d (.i .i64 y8.2))), (36, (vGValue y8.1)), (31, (.tup [(vGValue y8.1), (.d (.i .i64 y8.2))])), (35, (.tup [(vGValue y8.1), (.d (.i .i64 y8.2))])), (34, (.d (.sl 3 (y6.map cGValue)))), (33, (vGValue y7)), (32, (vGValue p0)), (8, (.d (.sl 3 (y6.map cGValue)))), (30, (.d (.sl 3 (y6.map cGValue)))), (29, (.d (.sl 3 (p1.map cGValue)))), (7, (.d (.i .i64 y5.2))), (6, (.ptr 6 0)), (28, (.d (.i .i64 y5.2))), (27, (vGValue y5.1)), (21, (.tup [(vGValue y5.1), (.d (.i .i64 y5.2))])), (26, (.tup [(vGValue y5.1), (.d (.i .i64 y5.2))])), (25, (.d (.sl 3 (y4.map cGValue)))), (24, (.d (.sl 3 (p1.map cGValue)))), (23, (vGValue y3)), (22, (vGValue p0)), (20, (.d (.b (decide (y2 < 0))))), (19, (.d (.i .i64 y2))), (5, (.d (.i .i64 y2))), (18, (.d (.i .i64 y2))), (17, (.d (.i .i64 y1))), (16, (.d (.sl 3 (p1.map cGValue)))), (15, (.d (.b (decide (y1 < 0))))), (14, (.d (.i .i64 y1))), (5, (.d (.i .i64 y1))), (13, (.d (.i .i64 y1))), (12, (.d (.i .i64 1048576))), (11, (vGValue p0)), (5, (.d (.i .i64 1048576))), (4, (.d (.b false))), (2, (.ptr 2 0)), (0, (vGValue p0)), (1, (.d (.sl 3 (p1.map cGValue))))], [(9, [(.d (.i .i64 y8.1.kind)), (.d (.i .i64 y8.1.num)), (.d (.s (bs y8.1.text)))]), (6, [(.d (.i .i64 y5.1.kind)), (.d (.i .i64 y5.1.num)), (.d (.s (bs y5.1.text)))]), (2, [(.d (.i .i64 p0.kind)), (.d (.i .i64 p0.num)), (.d (.s (bs p0.text)))])]⟩) (by kernel_rfl) ?_
      refine gp_step (p := true) (b := (!y9)) (v' := (.d (.i .i64 y8.2))) (by kernel_rfl) rfl rfl (fun hc => vop_val1 (by kernel_rfl) (by kernel_rfl)) ?_
      refine gp_step (p := true) (b := (!y9)) (v' := (.d (.i .i64 y5.2))) (by kernel_rfl) rfl rfl (fun hc => vop_val1 (by kernel_rfl) (by kernel_rfl)) ?_
      refine gp_step (p := true) (b := (!y9)) (v' := (.d (.b (!decide (y8.2 = y5.2))))) (by kernel_rfl) rfl rfl (fun hc => vop_val1 (Eq.trans (b := ([(true && ((!y9) == false)), (true && ((!y9) == false))] : List Bool).all id) (by kernel_rfl) (all_c hc (all_c hc rfl))) (by kernel_rfl)) ?_
      refine p_step (v' := (.d (.b (if (!y9) = true then true else (!decide (y8.2 = y5.2)))))) rfl rfl (vop_pick (b := (!y9)) (p := true) (u := true) (q := (true && ((!y9) == false))) (v := (!decide (y8.2 = y5.2))) (by kernel_rfl) (by kernel_rfl) (by kernel_rfl) (by kernel_rfl) (fun _ => rfl) (fun hb => gc_f rfl hb)) ?_
      refine nil_in ?_
      refine next_in ?_
      refine cond_step h (by kernel_rfl) ?_ ?_
      · clear h; intro h
        refine seq_in ?_
        refine ops_in ?_
        refine sts_ok 1 (s' := ⟨[(4, (.d (.b false))), (46, (.d (.b (if (!y9) = true then true else (!decide (y8.2 = y5.2)))))), (45, (.ite (true && ((!y9) == false)) (.d (.b (!decide (y8.2 = y5.2)))))), (44, (.ite (true && ((!y9) == false)) (.d (.i .i64 y5.2)))), (43, (.ite (true && ((!y9) == false)) (.d (.i .i64 y8.2)))), (42, (.d (.b (!y9)))), (41, (.d (.b (!y9)))), (40, (.d (.b y9))), (39, (vGValue y5.1)), (38, (vGValue y8.1)), (10, (.d (.i .i64 y8.2))), (9, (.ptr 9 0)), (37, (.d (.i .i64 y8.2))), (36, (vGValue y8.1)), (31, (.tup [(vGValue y8.1), (.d (.i .i64 y8.2))])), (35, (.tup [(vGValue y8.1), (.d (.i .i64 y8.2))])), (34, (.d (.sl 3 (y6.map cGValue)))), (33, (vGValue y7)), (32, (vGValue p0)), (8, (.d (.sl 3 (y6.map cGValue)))), (30, (.d (.sl 3 (y6.map cGValue)))), (29, (.d (.sl 3 (p1.map cGValue)))), (7, (.d (.i .i64 y5.2))), (6, (.ptr 6 0)), (28, (.d (.i .i64 y5.2))), (27, (vGValue y5.1)), (21, (.tup [(vGValue y5.1), (.d (.i .i64 y5.2))])), (26, (.tup [(vGValue y5.1), (.d (.i .i64 y5.2))])), (25, (.d (.sl 3 (y4.map cGValue)))), (24, (.d (.sl 3 (p1.map cGValue)))), (23, (vGValue y3)), (22, (vGValue p0)), (20, (.d (.b (decide (y2 < 0))))), (19, (.d (.i .i64 y2))), (5, (.d (.i .i64 y2))), (18, (.d (.i .i64 y2))), (17, (.d (.i .i64 y1))), (16, (.d (.sl 3 (p1.map cGValue)))), (15, (.d (.b (decide (y1 < 0))))), (14, (.d (.i .i64 y1))), (5, (.d (.i .i64 y1))), (13, (.d (.i .i64 y1))), (12, (.d (.i .i64 1048576))), (11, (vGValue p0)), (5, (.d (.i .i64 1048576))), (4, (.d (.b false))), (2, (.ptr 2 0)), (0, (vGValue p0)), (1, (.d (.sl 3 (p1.map cGValue))))], [(9, [(.d (.i .i64 y8.1.kind)), (.d (.i .i64 y8.1.num)), (.d (.s (bs y8.1.text)))]), (6, [(.d (.i .i64 y5.1.kind)), (.d (.i .i64 y5.1.num)), (.d (.s (bs y5.1.text)))]), (2, [(.d (.i .i64 p0.kind)), (.d (.i .i64 p0.num)), (.d (.s (bs p0.text)))])]⟩) (by kernel_rfl) ?_
        refine nil_in ?_
        refine next_in ?_
        refine ret_in ?_
        refine thenK_ret ?_
        have h := Option.some.inj h; subst h
        exact ret1_step (v := (.d (.b false))) (by kernel_rfl) (by kernel_rfl) (by kernel_rfl)
      · clear h; intro h
        refine skip_in ?_
        refine next_in ?_
        refine seq_in ?_
        refine seq_in ?_
        refine ops_in ?_
        refine sts_ok 2 (s' := ⟨[(48, (.d (.sl 3 (p1.map cGValue)))), (47, (.d (.sl 3 (y6.map cGValue)))), (46, (.d (.b (if (!y9) = true then true else (!decide (y8.2 = y5.2)))))), (45, (.ite (true && ((!y9) == false)) (.d (.b (!decide (y8.2 = y5.2)))))), (44, (.ite (true && ((!y9) == false)) (.d (.i .i64 y5.2)))), (43, (.ite (true && ((!y9) == false)) (.d (.i .i64 y8.2)))), (42, (.d (.b (!y9)))), (41, (.d (.b (!y9)))), (40, (.d (.b y9))), (39, (vGValue y5.1)), (38, (vGValue y8.1)), (10, (.d (.i .i64 y8.2))), (9, (.ptr 9 0)), (37, (.d (.i .i64 y8.2))), (36, (vGValue y8.1)), (31, (.tup [(vGValue y8.1), (.d (.i .i64 y8.2))])), (35, (.tup [(vGValue y8.1), (.d (.i .i64 y8.2))])), (34, (.d (.sl 3 (y6.map cGValue)))), (33, (vGValue y7)), (32, (vGValue p0)), (8, (.d (.sl 3 (y6.map cGValue)))), (30, (.d (.sl 3 (y6.map cGValue)))), (29, (.d (.sl 3 (p1.map cGValue)))), (7, (.d (.i .i64 y5.2))), (6, (.ptr 6 0)), (28, (.d (.i .i64 y5.2))), (27, (vGValue y5.1)), (21, (.tup [(vGValue y5.1), (.d (.i .i64 y5.2))])), (26, (.tup [(vGValue y5.1), (.d (.i .i64 y5.2))])), (25, (.d (.sl 3 (y4.map cGValue)))), (24, (.d (.sl 3 (p1.map cGValue)))), (23, (vGValue y3)), (22, (vGValue p0)), (20, (.d (.b (decide (y2 < 0))))), (19, (.d (.i .i64 y2))), (5, (.d (.i .i64 y2))), (18, (.d (.i .i64 y2))), (17, (.d (.i .i64 y1))), (16, (.d (.sl 3 (p1.map cGValue)))), (15, (.d (.b (decide (y1 < 0))))), (14, (.d (.i .i64 y1))), (5, (.d (.i .i64 y1))), (13, (.d (.i .i64 y1))), (12, (.d (.i .i64 1048576))), (11, (vGValue p0)), (5, (.d (.i .i64 1048576))), (4, (.d (.b false))), (2, (.ptr 2 0)), (0, (vGValue p0)), (1, (.d (.sl 3 (p1.map cGValue))))], [(9, [(.d (.i .i64 y8.1.kind)), (.d (.i .i64 y8.1.num)), (.d (.s (bs y8.1.text)))]), (6, [(.d (.i .i64 y5.1.kind)), (.d (.i .i64 y5.1.num)), (.d (.s (bs y5.1.text)))]), (2, [(.d (.i .i64 p0.kind)), (.d (.i .i64 p0.num)), (.d (.s (bs p0.text)))])]⟩) (by kernel_rfl) ?_
        refine call_step (m := wToValueS p1) (args := [(.d (.sl 3 (p1.map cGValue)))]) (v' := (fun y => (.d (.sl 3 (y.map cGValue))))) h (OK_wToValueS p1) (by kernel_rfl) (by kernel_rfl) (fun _ => rfl) ?_
        clear h; intro y10 h
        refine call_step (m := wEqValueS y6 y10) (args := [(.d (.sl 3 (y6.map cGValue))), (.d (.sl 3 (y10.map cGValue)))]) (v' := (fun y => (.d (.b y)))) h (OK_wEqValueS y6 y10) (by kernel_rfl) (by kernel_rfl) (fun _ => rfl) ?_
        clear h; intro y11 h
        refine sts_ok 1 (s' := ⟨[(51, (.d (.b (!y11)))), (50, (.d (.b y11))), (49, (.d (.sl 3 (y10.map cGValue)))), (48, (.d (.sl 3 (p1.map cGValue)))), (47, (.d (.sl 3 (y6.map cGValue)))), (46, (.d (.b (if (!y9) = true then true else (!decide (y8.2 = y5.2)))))), (45, (.ite (true && ((!y9) == false)) (.d (.b (!decide (y8.2 = y5.2)))))), (44, (.ite (true && ((!y9) == false)) (.d (.i .i64 y5.2)))), (43, (.ite (true && ((!y9) == false)) (.d (.i .i64 y8.2)))), (42, (.d (.b (!y9)))), (41, (.d (.b (!y9)))), (40, (.d (.b y9))), (39, (vGValue y5.1)), (38, (vGValue y8.1)), (10, (.d (.i .i64 y8.2))), (9, (.ptr 9 0)), (37, (.d (.i .i64 y8.2))), (36, (vGValue y8.1)), (31, (.tup [(vGValue y8.1), (.d (.i .i64 y8.2))])), (35, (.tup [(vGValue y8.1), (.d (.i .i64 y8.2))])), (34, (.d (.sl 3 (y6.map cGValue)))), (33, (vGValue y7)), (32, (vGValue p0)), (8, (.d (.sl 3 (y6.map cGValue)))), (30, (.d (.sl 3 (y6.map cGValue)))), (29, (.d (.sl 3 (p1.map cGValue)))), (7, (.d (.i .i64 y5.2))), (6, (.ptr 6 0)), (28, (.d (.i .i64 y5.2))), (27, (vGValue y5.1)), (21, (.tup [(vGValue y5.1), (.d (.i .i64 y5.2))])), (26, (.tup [(vGValue y5.1), (.d (.i .i64 y5.2))])), (25, (.d (.sl 3 (y4.map cGValue)))), (24, (.d (.sl 3 (p1.map cGValue)))), (23, (vGValue y3)), (22, (vGValue p0)), (20, (.d (.b (decide (y2 < 0))))), (19, (.d (.i .i64 y2))), (5, (.d (.i .i64 y2))), (18, (.d (.i .i64 y2))), (17, (.d (.i .i64 y1))), (16, (.d (.sl 3 (p1.map cGValue)))), (15, (.d (.b (decide (y1 < 0))))), (14, (.d (.i .i64 y1))), (5, (.d (.i .i64 y1))), (13, (.d (.i .i64 y1))), (12, (.d (.i .i64 1048576))), (11, (vGValue p0)), (5, (.d (.i .i64 1048576))), (4, (.d (.b false))), (2, (.ptr 2 0)), (0, (vGValue p0)), (1, (.d (.sl 3 (p1.map cGValue))))], [(9, [(.d (.i .i64 y8.1.kind)), (.d (.i .i64 y8.1.num)), (.d (.s (bs y8.1.text)))]), (6, [(.d (.i .i64 y5.1.kind)), (.d (.i .i64 y5.1.num)), (.d (.s (bs y5.1.text)))]), (2, [(.d (.i .i64 p0.kind)), (.d (.i .i64 p0.num)), (.d (.s (bs p0.text)))])]⟩) (by kernel_rfl) ?_
        refine nil_in ?_
        refine next_in ?_
        refine cond_step h (by kernel_rfl) ?_ ?_
        · clear h; intro h
          refine seq_in ?_
          refine ops_in ?_
          refine sts_ok 1 (s' := ⟨[(4, (.d (.b false))), (51, (.d (.b (!y11)))), (50, (.d (.b y11))), (49, (.d (.sl 3 (y10.map cGValue)))), (48, (.d (.sl 3 (p1.map cGValue)))), (47, (.d (.sl 3 (y6.map cGValue)))), (46, (.d (.b (if (!y9) = true then true else (!decide (y8.2 = y5.2)))))), (45, (.ite (true && ((!y9) == false)) (.d (.b (!decide (y8.2 = y5.2)))))), (44, (.ite (true && ((!y9) == false)) (.d (.i .i64 y5.2)))), (43, (.ite (true && ((!y9) == false)) (.d (.i .i64 y8.2)))), (42, (.d (.b (!y9)))), (41, (.d (.b (!y9)))), (40, (.d (.b y9))), (39, (vGValue y5.1)), (38, (vGValue y8.1)), (10, (.d (.i .i64 y8.2))), (9, (.ptr 9 0)), (37, (.d (.i .i64 y8.2))), (36, (vGValue y8.1)), (31, (.tup [(vGValue y8.1), (.d (.i .i64 y8.2))])), (35, (.tup [(vGValue y8.1), (.d (.i .i64 y8.2))])), (34, (.d (.sl 3 (y6.map cGValue)))), (33, (vGValue y7)), (32, (vGValue p0)), (8, (.d (.sl 3 (y6.map cGValue)))), (30, (.d (.sl 3 (y6.map cGValue)))), (29, (.d (.sl 3 (p1.map cGValue)))), (7, (.d (.i .i64 y5.2))), (6, (.ptr 6 0)), (28, (.d (.i .i64 y5.2))), (27, (vGValue y5.1)), (21, (.tup [(vGValue y5.1), (.d (.i .i64 y5.2))])), (26, (.tup [(vGValue y5.1), (.d (.i .i64 y5.2))])), (25, (.d (.sl 3 (y4.map cGValue)))), (24, (.d (.sl 3 (p1.map cGValue)))), (23, (vGValue y3)), (22, (vGValue p0)), (20, (.d (.b (decide (y2 < 0))))), (19, (.d (.i .i64 y2))), (5, (.d (.i .i64 y2))), (18, (.d (.i .i64 y2))), (17, (.d (.i .i64 y1))), (16, (.d (.sl 3 (p1.map cGValue)))), (15, (.d (.b (decide (y1 < 0))))), (14, (.d (.i .i64 y1))), (5, (.d (.i .i64 y1))), (13, (.d (.i .i64 y1))), (12, (.d (.i .i64 1048576))), (11, (vGValue p0)), (5, (.d (.i .i64 1048576))), (4, (.d (.b false))), (2, (.ptr 2 0)), (0, (vGValue p0)), (1, (.d (.sl 3 (p1.map cGValue))))], [(9, [(.d (.i .i64 y8.1.kind)), (.d (.i .i64 y8.1.num)), (.d (.s (bs y8.1.text)))]), (6, [(.d (.i .i64 y5.1.kind)), (.d (.i .i64 y5.1.num)), (.d (.s (bs y5.1.text)))]), (2, [(.d (.i .i64 p0.kind)), (.d (.i .i64 p0.num)), (.d (.s (bs p0.text)))])]⟩) (by kernel_rfl) ?_
          refine nil_in ?_
          refine next_in ?_
          refine ret_in ?_
          refine thenK_ret ?_
          have h := Option.some.inj h; subst h
          exact ret1_step (v := (.d (.b false))) (by kernel_rfl) (by kernel_rfl) (by kernel_rfl)
        · clear h; intro h
          refine skip_in ?_
          refine next_in ?_
          refine seq_in ?_
          refine ops_in ?_
          refine sts_ok 1 (s' := ⟨[(4, (.d (.b true))), (51, (.d (.b (!y11)))), (50, (.d (.b y11))), (49, (.d (.sl 3 (y10.map cGValue)))), (48, (.d (.sl 3 (p1.map cGValue)))), (47, (.d (.sl 3 (y6.map cGValue)))), (46, (.d (.b (if (!y9) = true then true else (!decide (y8.2 = y5.2)))))), (45, (.ite (true && ((!y9) == false)) (.d (.b (!decide (y8.2 = y5.2)))))), (44, (.ite (true && ((!y9) == false)) (.d (.i .i64 y5.2)))), (43, (.ite (true && ((!y9) == false)) (.d (.i .i64 y8.2)))), (42, (.d (.b (!y9)))), (41, (.d (.b (!y9)))), (40, (.d (.b y9))), (39, (vGValue y5.1)), (38, (vGValue y8.1)), (10, (.d (.i .i64 y8.2))), (9, (.ptr 9 0)), (37, (.d (.i .i64 y8.2))), (36, (vGValue y8.1)), (31, (.tup [(vGValue y8.1), (.d (.i .i64 y8.2))])), (35, (.tup [(vGValue y8.1), (.d (.i .i64 y8.2))])), (34, (.d (.sl 3 (y6.map cGValue)))), (33, (vGValue y7)), (32, (vGValue p0)), (8, (.d (.sl 3 (y6.map cGValue)))), (30, (.d (.sl 3 (y6.map cGValue)))), (29, (.d (.sl 3 (p1.map cGValue)))), (7, (.d (.i .i64 y5.2))), (6, (.ptr 6 0)), (28, (.d (.i .i64 y5.2))), (27, (vGValue y5.1)), (21, (.tup [(vGValue y5.1), (.d (.i .i64 y5.2))])), (26, (.tup [(vGValue y5.1), (.d (.i .i64 y5.2))])), (25, (.d (.sl 3 (y4.map cGValue)))), (24, (.d (.sl 3 (p1.map cGValue)))), (23, (vGValue y3)), (22, (vGValue p0)), (20, (.d (.b (decide (y2 < 0))))), (19, (.d (.i .i64 y2))), (5, (.d (.i .i64 y2))), (18, (.d (.i .i64 y2))), (17, (.d (.i .i64 y1))), (16, (.d (.sl 3 (p1.map cGValue)))), (15, (.d (.b (decide (y1 < 0))))), (14, (.d (.i .i64 y1))), (5, (.d (.i .i64 y1))), (13, (.d (.i .i64 y1))), (12, (.d (.i .i64 1048576))), (11, (vGValue p0)), (5, (.d (.i .i64 1048576))), (4, (.d (.b false))), (2, (.ptr 2 0)), (0, (vGValue p0)), (1, (.d (.sl 3 (p1.map cGValue))))], [(9, [(.d (.i .i64 y8.1.kind)), (.d (.i .i64 y8.1.num)), (.d (.s (bs y8.1.text)))]), (6, [(.d (.i .i64 y5.1.kind)), (.d (.i .i64 y5.1.num)), (.d (.s (bs y5.1.text)))]), (2, [(.d (.i .i64 p0.kind)), (.d (.i .i64 p0.num)), (.d (.s (bs p0.text)))])]⟩) (by kernel_rfl) ?_
          refine nil_in ?_
          refine next_in ?_
          refine ret_in ?_
          have h := Option.some.inj h; subst h
          exact ret1_step (v := (.d (.b true))) (by kernel_rfl) (by kernel_rfl) (by kernel_rfl)
theorem law_wFnExactWithin (hp : ∀ (x0 : GValue) (_ : okGValue x0) (x1 : (List GValue)) (_ : (okL okGValue) x1), wFnExactWithin x0 x1 = some true) (ls : List (List D)) (hw : WtA Try.prog [39, 51] ls) (hok : ∀ l ∈ ls, ∀ x ∈ l, OkD x) : ACalls Try.prog 6 (argsV Try.prog [39, 51] ls) [] fun x _ => x = .d (.b true) := by
  rcases hw with _ | ⟨h0, hw⟩
  rcases hw with _ | ⟨h1, hw⟩
  cases hw
  obtain ⟨x0, rfl⟩ := de39 h0
  obtain ⟨x1, rfl⟩ := de51 h1
  have a0 : argV Try.prog 39 (cGValue x0) = (vGValue x0) := by kernel_rfl
  have a1 : argV Try.prog 51 ((cSl 3 cGValue) x1) = (.d (.sl 3 (x1.map cGValue))) := by kernel_rfl
  have k0 : ∀ d ∈ cGValue x0, OkD d := hok _ (by simp)
  have k1 : ∀ d ∈ (cSl 3 cGValue) x1, OkD d := hok _ (by simp)
  simp only [argsV, a0, a1]
  exact OK_wFnExactWithin x0 x1 true (hp x0 (koGValue x0 k0) x1 (ko_l _ (fun y hy => koGValue y hy) k1))
end Go.Proofs.Ytlohdmekmmjjlaa
