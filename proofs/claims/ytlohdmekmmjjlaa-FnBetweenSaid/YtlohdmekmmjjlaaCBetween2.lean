/- That the code computes these functions (printed by a program). -/
import Derived.Test.YtlohdmekmmjjlaaCBetween1
namespace Go.Proofs.Ytlohdmekmmjjlaa
open Go Go.RowKit Go.Ab
theorem OK_sMulNum (p0 : Int) (p1 : Int) : FOk Try.prog 130 [(.d (.i .i64 p0)), (.d (.i .i64 p1))] (fun y => (.tup [(.d (.i .i64 y.1)), (.d (.b y.2))])) (sMulNum p0 p1) := by
  intro r h
  rw [sMulNum] at h
  refine acalls_of_fn trsMulNum (Nat.le_of_ble_eq_true rfl) (by simp) ?_
  show avc Try.prog acsMulNum (qsMulNum _) ⟨[(0, (.d (.i .i64 p0))), (1, (.d (.i .i64 p1)))], []⟩
  delta acsMulNum
  refine seq_in ?_
  refine ops_in ?_
  refine sts_ok 2 (s' := ⟨[(5, (.d (.b false))), (4, (.d (.i .i64 0))), (0, (.d (.i .i64 p0))), (1, (.d (.i .i64 p1)))], []⟩) (by kernel_rfl) ?_
  refine nil_in ?_
  refine next_in ?_
  refine seq_in ?_
  refine seq_in ?_
  refine ops_in ?_
  refine sts_ok 3 (s' := ⟨[(9, (.d (.b (decide (p0 = 0))))), (8, (.d (.b (decide (p0 = 0))))), (7, (.d (.i .i64 p0))), (5, (.d (.b false))), (4, (.d (.i .i64 0))), (0, (.d (.i .i64 p0))), (1, (.d (.i .i64 p1)))], []⟩) (by kernel_rfl) ?_
  refine gp_step (p := true) (b := (decide (p0 = 0))) (v' := (.d (.i .i64 p1))) (by kernel_rfl) rfl rfl (fun hc => vop_val1 (by kernel_rfl) (by kernel_rfl)) ?_
  refine gp_step (p := true) (b := (decide (p0 = 0))) (v' := (.d (.b (decide (p1 = 0))))) (by kernel_rfl) rfl rfl (fun hc => vop_val1 (Eq.trans (b := ([(true && ((decide (p0 = 0)) == false))] : List Bool).all id) (by kernel_rfl) (all_c hc rfl)) (by kernel_rfl)) ?_
  refine p_step (v' := (.d (.b (if (decide (p0 = 0)) = true then true else (decide (p1 = 0)))))) rfl rfl (vop_pick (b := (decide (p0 = 0))) (p := true) (u := true) (q := (true && ((decide (p0 = 0)) == false))) (v := (decide (p1 = 0))) (by kernel_rfl) (by kernel_rfl) (by kernel_rfl) (by kernel_rfl) (fun _ => rfl) (fun hb => gc_f rfl hb)) ?_
  refine nil_in ?_
  refine next_in ?_
  refine cond_step h (by kernel_rfl) ?_ ?_
  · clear h; intro h
    refine seq_in ?_
    refine ops_in ?_
    refine sts_ok 2 (s' := ⟨[(5, (.d (.b true))), (4, (.d (.i .i64 0))), (12, (.d (.b (if (decide (p0 = 0)) = true then true else (decide (p1 = 0)))))), (11, (.ite (true && ((decide (p0 = 0)) == false)) (.d (.b (decide (p1 = 0)))))), (10, (.ite (true && ((decide (p0 = 0)) == false)) (.d (.i .i64 p1)))), (9, (.d (.b (decide (p0 = 0))))), (8, (.d (.b (decide (p0 = 0))))), (7, (.d (.i .i64 p0))), (5, (.d (.b false))), (4, (.d (.i .i64 0))), (0, (.d (.i .i64 p0))), (1, (.d (.i .i64 p1)))], []⟩) (by kernel_rfl) ?_
    refine nil_in ?_
    refine next_in ?_
    refine ret_in ?_
    refine thenK_ret ?_
    have h := Option.some.inj h; subst h
    exact retn_step (vs := [(.d (.i .i64 0)), (.d (.b true))]) (by kernel_rfl) (by kernel_rfl)
  · clear h; intro h
    refine skip_in ?_
    refine next_in ?_
    refine seq_in ?_
    refine seq_in ?_
    refine ops_in ?_
    refine sts_ok 3 (s' := ⟨[(15, (.d (.b (decide (p0 = (-1)))))), (14, (.d (.b (decide (p0 = (-1)))))), (13, (.d (.i .i64 p0))), (12, (.d (.b (if (decide (p0 = 0)) = true then true else (decide (p1 = 0)))))), (11, (.ite (true && ((decide (p0 = 0)) == false)) (.d (.b (decide (p1 = 0)))))), (10, (.ite (true && ((decide (p0 = 0)) == false)) (.d (.i .i64 p1)))), (9, (.d (.b (decide (p0 = 0))))), (8, (.d (.b (decide (p0 = 0))))), (7, (.d (.i .i64 p0))), (5, (.d (.b false))), (4, (.d (.i .i64 0))), (0, (.d (.i .i64 p0))), (1, (.d (.i .i64 p1)))], []⟩) (by kernel_rfl) ?_
    refine gp_step (p := true) (b := (decide (p0 = (-1)))) (v' := (.d (.i .i64 p1))) (by kernel_rfl) rfl rfl (fun hc => vop_val1 (by kernel_rfl) (by kernel_rfl)) ?_
    refine gp_step (p := true) (b := (decide (p0 = (-1)))) (v' := (.d (.b (decide (p1 = (-9223372036854775808)))))) (by kernel_rfl) rfl rfl (fun hc => vop_val1 (Eq.trans (b := ([(true && ((decide (p0 = (-1))) == true))] : List Bool).all id) (by kernel_rfl) (all_c hc rfl)) (by kernel_rfl)) ?_
    refine p_step (v' := (.d (.b (if (decide (p0 = (-1))) = true then (decide (p1 = (-9223372036854775808))) else false)))) rfl rfl (vop_pick (b := (decide (p0 = (-1)))) (p := (true && ((decide (p0 = (-1))) == true))) (u := (decide (p1 = (-9223372036854775808)))) (q := true) (v := false) (by kernel_rfl) (by kernel_rfl) (by kernel_rfl) (by kernel_rfl) (fun hb => gc_t rfl hb) (fun _ => rfl)) ?_
    refine sts_ok 1 (s' := ⟨[(19, (.d (.b (if (decide (p0 = (-1))) = true then (decide (p1 = (-9223372036854775808))) else false)))), (18, (.d (.b (if (decide (p0 = (-1))) = true then (decide (p1 = (-9223372036854775808))) else false)))), (17, (.ite (true && ((decide (p0 = (-1))) == true)) (.d (.b (decide (p1 = (-9223372036854775808))))))), (16, (.ite (true && ((decide (p0 = (-1))) == true)) (.d (.i .i64 p1)))), (15, (.d (.b (decide (p0 = (-1)))))), (14, (.d (.b (decide (p0 = (-1)))))), (13, (.d (.i .i64 p0))), (12, (.d (.b (if (decide (p0 = 0)) = true then true else (decide (p1 = 0)))))), (11, (.ite (true && ((decide (p0 = 0)) == false)) (.d (.b (decide (p1 = 0)))))), (10, (.ite (true && ((decide (p0 = 0)) == false)) (.d (.i .i64 p1)))), (9, (.d (.b (decide (p0 = 0))))), (8, (.d (.b (decide (p0 = 0))))), (7, (.d (.i .i64 p0))), (5, (.d (.b false))), (4, (.d (.i .i64 0))), (0, (.d (.i .i64 p0))), (1, (.d (.i .i64 p1)))], []⟩) (by kernel_rfl) ?_
    refine gp_step (p := true) (b := (if (decide (p0 = (-1))) = true then (decide (p1 = (-9223372036854775808))) else false)) (v' := (.d (.i .i64 p1))) (by kernel_rfl) rfl rfl (fun hc => vop_val1 (by kernel_rfl) (by kernel_rfl)) ?_
    refine gp_step (p := true) (b := (if (decide (p0 = (-1))) = true then (decide (p1 = (-9223372036854775808))) else false)) (v' := (.d (.b (decide (p1 = (-1)))))) (by kernel_rfl) rfl rfl (fun hc => vop_val1 (Eq.trans (b := ([(true && ((if (decide (p0 = (-1))) = true then (decide (p1 = (-9223372036854775808))) else false) == false))] : List Bool).all id) (by kernel_rfl) (all_c hc rfl)) (by kernel_rfl)) ?_
    refine gp_step (p := true) (b := (if (decide (p0 = (-1))) = true then (decide (p1 = (-9223372036854775808))) else false)) (v' := (.d (.b (decide (p1 = (-1)))))) (by kernel_rfl) rfl rfl (fun hc => vop_val1 (Eq.trans (b := ([(true && ((if (decide (p0 = (-1))) = true then (decide (p1 = (-9223372036854775808))) else false) == false))] : List Bool).all id) (by kernel_rfl) (all_c hc rfl)) (by kernel_rfl)) ?_
    refine gp_step (p := (true && ((if (decide (p0 = (-1))) = true then (decide (p1 = (-9223372036854775808))) else false) == false))) (b := (decide (p1 = (-1)))) (v' := (.d (.i .i64 p0))) (by kernel_rfl) rfl rfl (fun hc => vop_val1 (by kernel_rfl) (by kernel_rfl)) ?_
    refine gp_step (p := (true && ((if (decide (p0 = (-1))) = true then (decide (p1 = (-9223372036854775808))) else false) == false))) (b := (decide (p1 = (-1)))) (v' := (.d (.b (decide (p0 = (-9223372036854775808)))))) (by kernel_rfl) rfl rfl (fun hc => vop_val1 (Eq.trans (b := ([((true && ((if (decide (p0 = (-1))) = true then (decide (p1 = (-9223372036854775808))) else false) == false)) && ((decide (p1 = (-1))) == true))] : List Bool).all id) (by kernel_rfl) (all_c hc rfl)) (by kernel_rfl)) ?_
    refine gp_step (p := true) (b := (if (decide (p0 = (-1))) = true then (decide (p1 = (-9223372036854775808))) else false)) (v' := (.d (.b (if (decide (p1 = (-1))) = true then (decide (p0 = (-9223372036854775808))) else false)))) (by kernel_rfl) rfl rfl (fun hc => vop_pick (b := (decide (p1 = (-1)))) (p := ((true && ((if (decide (p0 = (-1))) = true then (decide (p1 = (-9223372036854775808))) else false) == false)) && ((decide (p1 = (-1))) == true))) (u := (decide (p0 = (-9223372036854775808)))) (q := true) (v := false) (Eq.trans (b := ([(true && ((if (decide (p0 = (-1))) = true then (decide (p1 = (-9223372036854775808))) else false) == false))] : List Bool).all id) (by kernel_rfl) (all_c hc rfl)) (by kernel_rfl) (by kernel_rfl) (by kernel_rfl) (fun hb => gc_t hc hb) (fun _ => rfl)) ?_
    refine p_step (v' := (.d (.b (if (if (decide (p0 = (-1))) = true then (decide (p1 = (-9223372036854775808))) else false) = true then true else (if (decide (p1 = (-1))) = true then (decide (p0 = (-9223372036854775808))) else false))))) rfl rfl (vop_pick (b := (if (decide (p0 = (-1))) = true then (decide (p1 = (-9223372036854775808))) else false)) (p := true) (u := true) (q := (true && ((if (decide (p0 = (-1))) = true then (decide (p1 = (-9223372036854775808))) else false) == false))) (v := (if (decide (p1 = (-1))) = true then (decide (p0 = (-9223372036854775808))) else false)) (by kernel_rfl) (by kernel_rfl) (by kernel_rfl) (by kernel_rfl) (fun _ => rfl) (fun hb => gc_f rfl hb)) ?_
    refine nil_in ?_
    refine next_in ?_
    refine cond_step h (by kernel_rfl) ?_ ?_
    · clear h; intro h
      refine seq_in ?_
      refine ops_in ?_
      refine sts_ok 2 (s' := ⟨[(5, (.d (.b false))), (4, (.d (.i .i64 0))), (26, (.d (.b (if (if (decide (p0 = (-1))) = true then (decide (p1 = (-9223372036854775808))) else false) = true then true else (if (decide (p1 = (-1))) = true then (decide (p0 = (-9223372036854775808))) else false))))), (25, (.ite (true && ((if (decide (p0 = (-1))) = true then (decide (p1 = (-9223372036854775808))) else false) == false)) (.d (.b (if (decide (p1 = (-1))) = true then (decide (p0 = (-9223372036854775808))) else false))))), (24, (.ite ((true && ((if (decide (p0 = (-1))) = true then (decide (p1 = (-9223372036854775808))) else false) == false)) && ((decide (p1 = (-1))) == true)) (.d (.b (decide (p0 = (-9223372036854775808))))))), (23, (.ite ((true && ((if (decide (p0 = (-1))) = true then (decide (p1 = (-9223372036854775808))) else false) == false)) && ((decide (p1 = (-1))) == true)) (.d (.i .i64 p0)))), (22, (.ite (true && ((if (decide (p0 = (-1))) = true then (decide (p1 = (-9223372036854775808))) else false) == false)) (.d (.b (decide (p1 = (-1))))))), (21, (.ite (true && ((if (decide (p0 = (-1))) = true then (decide (p1 = (-9223372036854775808))) else false) == false)) (.d (.b (decide (p1 = (-1))))))), (20, (.ite (true && ((if (decide (p0 = (-1))) = true then (decide (p1 = (-9223372036854775808))) else false) == false)) (.d (.i .i64 p1)))), (19, (.d (.b (if (decide (p0 = (-1))) = true then (decide (p1 = (-9223372036854775808))) else false)))), (18, (.d (.b (if (decide (p0 = (-1))) = true then (decide (p1 = (-9223372036854775808))) else false)))), (17, (.ite (true && ((decide (p0 = (-1))) == true)) (.d (.b (decide (p1 = (-9223372036854775808))))))), (16, (.ite (true && ((decide (p0 = (-1))) == true)) (.d (.i .i64 p1)))), (15, (.d (.b (decide (p0 = (-1)))))), (14, (.d (.b (decide (p0 = (-1)))))), (13, (.d (.i .i64 p0))), (12, (.d (.b (if (decide (p0 = 0)) = true then true else (decide (p1 = 0)))))), (11, (.ite (true && ((decide (p0 = 0)) == false)) (.d (.b (decide (p1 = 0)))))), (10, (.ite (true && ((decide (p0 = 0)) == false)) (.d (.i .i64 p1)))), (9, (.d (.b (decide (p0 = 0))))), (8, (.d (.b (decide (p0 = 0))))), (7, (.d (.i .i64 p0))), (5, (.d (.b false))), (4, (.d (.i .i64 0))), (0, (.d (.i .i64 p0))), (1, (.d (.i .i64 p1)))], []⟩) (by kernel_rfl) ?_
      refine nil_in ?_
      refine next_in ?_
      refine ret_in ?_
      refine thenK_ret ?_
      have h := Option.some.inj h; subst h
      exact retn_step (vs := [(.d (.i .i64 0)), (.d (.b false))]) (by kernel_rfl) (by kernel_rfl)
    · clear h; intro h
      refine skip_in ?_
      refine next_in ?_
      refine seq_in ?_
      refine ops_in ?_
      refine sts_ok 4 (s' := ⟨[(6, (.d (.i .i64 (IntKind.wrap .i64 (p0 * p1))))), (29, (.d (.i .i64 (IntKind.wrap .i64 (p0 * p1))))), (28, (.d (.i .i64 p1))), (27, (.d (.i .i64 p0))), (26, (.d (.b (if (if (decide (p0 = (-1))) = true then (decide (p1 = (-9223372036854775808))) else false) = true then true else (if (decide (p1 = (-1))) = true then (decide (p0 = (-9223372036854775808))) else false))))), (25, (.ite (true && ((if (decide (p0 = (-1))) = true then (decide (p1 = (-9223372036854775808))) else false) == false)) (.d (.b (if (decide (p1 = (-1))) = true then (decide (p0 = (-9223372036854775808))) else false))))), (24, (.ite ((true && ((if (decide (p0 = (-1))) = true then (decide (p1 = (-9223372036854775808))) else false) == false)) && ((decide (p1 = (-1))) == true)) (.d (.b (decide (p0 = (-9223372036854775808))))))), (23, (.ite ((true && ((if (decide (p0 = (-1))) = true then (decide (p1 = (-9223372036854775808))) else false) == false)) && ((decide (p1 = (-1))) == true)) (.d (.i .i64 p0)))), (22, (.ite (true && ((if (decide (p0 = (-1))) = true then (decide (p1 = (-9223372036854775808))) else false) == false)) (.d (.b (decide (p1 = (-1))))))), (21, (.ite (true && ((if (decide (p0 = (-1))) = true then (decide (p1 = (-9223372036854775808))) else false) == false)) (.d (.b (decide (p1 = (-1))))))), (20, (.ite (true && ((if (decide (p0 = (-1))) = true then (decide (p1 = (-9223372036854775808))) else false) == false)) (.d (.i .i64 p1)))), (19, (.d (.b (if (decide (p0 = (-1))) = true then (decide (p1 = (-9223372036854775808))) else false)))), (18, (.d (.b (if (decide (p0 = (-1))) = true then (decide (p1 = (-9223372036854775808))) else false)))), (17, (.ite (true && ((decide (p0 = (-1))) == true)) (.d (.b (decide (p1 = (-9223372036854775808))))))), (16, (.ite (true && ((decide (p0 = (-1))) == true)) (.d (.i .i64 p1)))), (15, (.d (.b (decide (p0 = (-1)))))), (14, (.d (.b (decide (p0 = (-1)))))), (13, (.d (.i .i64 p0))), (12, (.d (.b (if (decide (p0 = 0)) = true then true else (decide (p1 = 0)))))), (11, (.ite (true && ((decide (p0 = 0)) == false)) (.d (.b (decide (p1 = 0)))))), (10, (.ite (true && ((decide (p0 = 0)) == false)) (.d (.i .i64 p1)))), (9, (.d (.b (decide (p0 = 0))))), (8, (.d (.b (decide (p0 = 0))))), (7, (.d (.i .i64 p0))), (5, (.d (.b false))), (4, (.d (.i .i64 0))), (0, (.d (.i .i64 p0))), (1, (.d (.i .i64 p1)))], []⟩) (by kernel_rfl) ?_
      refine nil_in ?_
      refine next_in ?_
      refine seq_in ?_
      refine seq_in ?_
      refine ops_in ?_
      refine sts_ok 2 (s' := ⟨[(31, (.d (.i .i64 p1))), (30, (.d (.i .i64 (IntKind.wrap .i64 (p0 * p1))))), (6, (.d (.i .i64 (IntKind.wrap .i64 (p0 * p1))))), (29, (.d (.i .i64 (IntKind.wrap .i64 (p0 * p1))))), (28, (.d (.i .i64 p1))), (27, (.d (.i .i64 p0))), (26, (.d (.b (if (if (decide (p0 = (-1))) = true then (decide (p1 = (-9223372036854775808))) else false) = true then true else (if (decide (p1 = (-1))) = true then (decide (p0 = (-9223372036854775808))) else false))))), (25, (.ite (true && ((if (decide (p0 = (-1))) = true then (decide (p1 = (-9223372036854775808))) else false) == false)) (.d (.b (if (decide (p1 = (-1))) = true then (decide (p0 = (-9223372036854775808))) else false))))), (24, (.ite ((true && ((if (decide (p0 = (-1))) = true then (decide (p1 = (-9223372036854775808))) else false) == false)) && ((decide (p1 = (-1))) == true)) (.d (.b (decide (p0 = (-9223372036854775808))))))), (23, (.ite ((true && ((if (decide (p0 = (-1))) = true then (decide (p1 = (-9223372036854775808))) else false) == false)) && ((decide (p1 = (-1))) == true)) (.d (.i .i64 p0)))), (22, (.ite (true && ((if (decide (p0 = (-1))) = true then (decide (p1 = (-9223372036854775808))) else false) == false)) (.d (.b (decide (p1 = (-1))))))), (21, (.ite (true && ((if (decide (p0 = (-1))) = true then (decide (p1 = (-9223372036854775808))) else false) == false)) (.d (.b (decide (p1 = (-1))))))), (20, (.ite (true && ((if (decide (p0 = (-1))) = true then (decide (p1 = (-9223372036854775808))) else false) == false)) (.d (.i .i64 p1)))), (19, (.d (.b (if (decide (p0 = (-1))) = true then (decide (p1 = (-9223372036854775808))) else false)))), (18, (.d (.b (if (decide (p0 = (-1))) = true then (decide (p1 = (-9223372036854775808))) else false)))), (17, (.ite (true && ((decide (p0 = (-1))) == true)) (.d (.b (decide (p1 = (-9223372036854775808))))))), (16, (.ite (true && ((decide (p0 = (-1))) == true)) (.d (.i .i64 p1)))), (15, (.d (.b (decide (p0 = (-1)))))), (14, (.d (.b (decide (p0 = (-1)))))), (13, (.d (.i .i64 p0))), (12, (.d (.b (if (decide (p0 = 0)) = true then true else (decide (p1 = 0)))))), (11, (.ite (true && ((decide (p0 = 0)) == false)) (.d (.b (decide (p1 = 0)))))), (10, (.ite (true && ((decide (p0 = 0)) == false)) (.d (.i .i64 p1)))), (9, (.d (.b (decide (p0 = 0))))), (8, (.d (.b (decide (p0 = 0))))), (7, (.d (.i .i64 p0))), (5, (.d (.b false))), (4, (.d (.i .i64 0))), (0, (.d (.i .i64 p0))), (1, (.d (.i .i64 p1)))], []⟩) (by kernel_rfl) ?_
      refine v_step (m := quoG .i64 (IntKind.wrap .i64 (p0 * p1)) p1) (v' := fun y => (.d (.i .i64 y))) h rfl rfl (fun y hy => vop_quo (k := .i64) (a := (IntKind.wrap .i64 (p0 * p1))) (b := p1) hy (by kernel_rfl) (by kernel_rfl) (by kernel_rfl)) ?_
      clear h; intro y1 h
      refine sts_ok 2 (s' := ⟨[(34, (.d (.b (!decide (y1 = p0))))), (33, (.d (.i .i64 p0))), (32, (.d (.i .i64 y1))), (31, (.d (.i .i64 p1))), (30, (.d (.i .i64 (IntKind.wrap .i64 (p0 * p1))))), (6, (.d (.i .i64 (IntKind.wrap .i64 (p0 * p1))))), (29, (.d (.i .i64 (IntKind.wrap .i64 (p0 * p1))))), (28, (.d (.i .i64 p1))), (27, (.d (.i .i64 p0))), (26, (.d (.b (if (if (decide (p0 = (-1))) = true then (decide (p1 = (-9223372036854775808))) else false) = true then true else (if (decide (p1 = (-1))) = true then (decide (p0 = (-9223372036854775808))) else false))))), (25, (.ite (true && ((if (decide (p0 = (-1))) = true then (decide (p1 = (-9223372036854775808))) else false) == false)) (.d (.b (if (decide (p1 = (-1))) = true then (decide (p0 = (-9223372036854775808))) else false))))), (24, (.ite ((true && ((if (decide (p0 = (-1))) = true then (decide (p1 = (-9223372036854775808))) else false) == false)) && ((decide (p1 = (-1))) == true)) (.d (.b (decide (p0 = (-9223372036854775808))))))), (23, (.ite ((true && ((if (decide (p0 = (-1))) = true then (decide (p1 = (-9223372036854775808))) else false) == false)) && ((decide (p1 = (-1))) == true)) (.d (.i .i64 p0)))), (22, (.ite (true && ((if (decide (p0 = (-1))) = true then (decide (p1 = (-9223372036854775808))) else false) == false)) (.d (.b (decide (p1 = (-1))))))), (21, (.ite (true && ((if (decide (p0 = (-1))) = true then (decide (p1 = (-9223372036854775808))) else false) == false)) (.d (.b (decide (p1 = (-1))))))), (20, (.ite (true && ((if (decide (p0 = (-1))) = true then (decide (p1 = (-9223372036854775808))) else false) == false)) (.d (.i .i64 p1)))), (19, (.d (.b (if (decide (p0 = (-1))) = true then (decide (p1 = (-9223372036854775808))) else false)))), (18, (.d (.b (if (decide (p0 = (-1))) = true then (decide (p1 = (-9223372036854775808))) else false)))), (17, (.ite (true && ((decide (p0 = (-1))) == true)) (.d (.b (decide (p1 = (-9223372036854775808))))))), (16, (.ite (true && ((decide (p0 = (-1))) == true)) (.d (.i .i64 p1)))), (15, (.d (.b (decide (p0 = (-1)))))), (14, (.d (.b (decide (p0 = (-1)))))), (13, (.d (.i .i64 p0))), (12, (.d (.b (if (decide (p0 = 0)) = true then true else (decide (p1 = 0)))))), (11, (.ite (true && ((decide (p0 = 0)) == false)) (.d (.b (decide (p1 = 0)))))), (10, (.ite (true && ((decide (p0 = 0)) == false)) (.d (.i .i64 p1)))), (9, (.d (.b (decide (p0 = 0))))), (8, (.d (.b (decide (p0 = 0))))), (7, (.d (.i .i64 p0))), (5, (.d (.b false))), (4, (.d (.i .i64 0))), (0, (.d (.i .i64 p0))), (1, (.d (.i .i64 p1)))], []⟩) (by kernel_rfl) ?_
      refine nil_in ?_
      refine next_in ?_
      refine cond_step h (by kernel_rfl) ?_ ?_
      · clear h; intro h
        refine seq_in ?_
        refine ops_in ?_
        refine sts_ok 2 (s' := ⟨[(5, (.d (.b false))), (4, (.d (.i .i64 0))), (34, (.d (.b (!decide (y1 = p0))))), (33, (.d (.i .i64 p0))), (32, (.d (.i .i64 y1))), (31, (.d (.i .i64 p1))), (30, (.d (.i .i64 (IntKind.wrap .i64 (p0 * p1))))), (6, (.d (.i .i64 (IntKind.wrap .i64 (p0 * p1))))), (29, (.d (.i .i64 (IntKind.wrap .i64 (p0 * p1))))), (28, (.d (.i .i64 p1))), (27, (.d (.i .i64 p0))), (26, (.d (.b (if (if (decide (p0 = (-1))) = true then (decide (p1 = (-9223372036854775808))) else false) = true then true else (if (decide (p1 = (-1))) = true then (decide (p0 = (-9223372036854775808))) else false))))), (25, (.ite (true && ((if (decide (p0 = (-1))) = true then (decide (p1 = (-9223372036854775808))) else false) == false)) (.d (.b (if (decide (p1 = (-1))) = true then (decide (p0 = (-9223372036854775808))) else false))))), (24, (.ite ((true && ((if (decide (p0 = (-1))) = true then (decide (p1 = (-9223372036854775808))) else false) == false)) && ((decide (p1 = (-1))) == true)) (.d (.b (decide (p0 = (-9223372036854775808))))))), (23, (.ite ((true && ((if (decide (p0 = (-1))) = true then (decide (p1 = (-9223372036854775808))) else false) == false)) && ((decide (p1 = (-1))) == true)) (.d (.i .i64 p0)))), (22, (.ite (true && ((if (decide (p0 = (-1))) = true then (decide (p1 = (-9223372036854775808))) else false) == false)) (.d (.b (decide (p1 = (-1))))))), (21, (.ite (true && ((if (decide (p0 = (-1))) = true then (decide (p1 = (-9223372036854775808))) else false) == false)) (.d (.b (decide (p1 = (-1))))))), (20, (.ite (true && ((if (decide (p0 = (-1))) = true then (decide (p1 = (-9223372036854775808))) else false) == false)) (.d (.i .i64 p1)))), (19, (.d (.b (if (decide (p0 = (-1))) = true then (decide (p1 = (-9223372036854775808))) else false)))), (18, (.d (.b (if (decide (p0 = (-1))) = true then (decide (p1 = (-9223372036854775808))) else false)))), (17, (.ite (true && ((decide (p0 = (-1))) == true)) (.d (.b (decide (p1 = (-9223372036854775808))))))), (16, (.ite (true && ((decide (p0 = (-1))) == true)) (.d (.i .i64 p1)))), (15, (.d (.b (decide (p0 = (-1)))))), (14, (.d (.b (decide (p0 = (-1)))))), (13, (.d (.i .i64 p0))), (12, (.d (.b (if (decide (p0 = 0)) = true then true else (decide (p1 = 0)))))), (11, (.ite (true && ((decide (p0 = 0)) == false)) (.d (.b (decide (p1 = 0)))))), (10, (.ite (true && ((decide (p0 = 0)) == false)) (.d (.i .i64 p1)))), (9, (.d (.b (decide (p0 = 0))))), (8, (.d (.b (decide (p0 = 0))))), (7, (.d (.i .i64 p0))), (5, (.d (.b false))), (4, (.d (.i .i64 0))), (0, (.d (.i .i64 p0))), (1, (.d (.i .i64 p1)))], []⟩) (by kernel_rfl) ?_
        refine nil_in ?_
        refine next_in ?_
        refine ret_in ?_
        refine thenK_ret ?_
        have h := Option.some.inj h; subst h
        exact retn_step (vs := [(.d (.i .i64 0)), (.d (.b false))]) (by kernel_rfl) (by kernel_rfl)
      · clear h; intro h
        refine skip_in ?_
        refine next_in ?_
        refine seq_in ?_
        refine ops_in ?_
        refine sts_ok 3 (s' := ⟨[(5, (.d (.b true))), (4, (.d (.i .i64 (IntKind.wrap .i64 (p0 * p1))))), (35, (.d (.i .i64 (IntKind.wrap .i64 (p0 * p1))))), (34, (.d (.b (!decide (y1 = p0))))), (33, (.d (.i .i64 p0))), (32, (.d (.i .i64 y1))), (31, (.d (.i .i64 p1))), (30, (.d (.i .i64 (IntKind.wrap .i64 (p0 * p1))))), (6, (.d (.i .i64 (IntKind.wrap .i64 (p0 * p1))))), (29, (.d (.i .i64 (IntKind.wrap .i64 (p0 * p1))))), (28, (.d (.i .i64 p1))), (27, (.d (.i .i64 p0))), (26, (.d (.b (if (if (decide (p0 = (-1))) = true then (decide (p1 = (-9223372036854775808))) else false) = true then true else (if (decide (p1 = (-1))) = true then (decide (p0 = (-9223372036854775808))) else false))))), (25, (.ite (true && ((if (decide (p0 = (-1))) = true then (decide (p1 = (-9223372036854775808))) else false) == false)) (.d (.b (if (decide (p1 = (-1))) = true then (decide (p0 = (-9223372036854775808))) else false))))), (24, (.ite ((true && ((if (decide (p0 = (-1))) = true then (decide (p1 = (-9223372036854775808))) else false) == false)) && ((decide (p1 = (-1))) == true)) (.d (.b (decide (p0 = (-9223372036854775808))))))), (23, (.ite ((true && ((if (decide (p0 = (-1))) = true then (decide (p1 = (-9223372036854775808))) else false) == false)) && ((decide (p1 = (-1))) == true)) (.d (.i .i64 p0)))), (22, (.ite (true && ((if (decide (p0 = (-1))) = true then (decide (p1 = (-9223372036854775808))) else false) == false)) (.d (.b (decide (p1 = (-1))))))), (21, (.ite (true && ((if (decide (p0 = (-1))) = true then (decide (p1 = (-9223372036854775808))) else false) == false)) (.d (.b (decide (p1 = (-1))))))), (20, (.ite (true && ((if (decide (p0 = (-1))) = true then (decide (p1 = (-9223372036854775808))) else false) == false)) (.d (.i .i64 p1)))), (19, (.d (.b (if (decide (p0 = (-1))) = true then (decide (p1 = (-9223372036854775808))) else false)))), (18, (.d (.b (if (decide (p0 = (-1))) = true then (decide (p1 = (-9223372036854775808))) else false)))), (17, (.ite (true && ((decide (p0 = (-1))) == true)) (.d (.b (decide (p1 = (-9223372036854775808))))))), (16, (.ite (true && ((decide (p0 = (-1))) == true)) (.d (.i .i64 p1)))), (15, (.d (.b (decide (p0 = (-1)))))), (14, (.d (.b (decide (p0 = (-1)))))), (13, (.d (.i .i64 p0))), (12, (.d (.b (if (decide (p0 = 0)) = true then true else (decide (p1 = 0)))))), (11, (.ite (true && ((decide (p0 = 0)) == false)) (.d (.b (decide (p1 = 0)))))), (10, (.ite (true && ((decide (p0 = 0)) == false)) (.d (.i .i64 p1)))), (9, (.d (.b (decide (p0 = 0))))), (8, (.d (.b (decide (p0 = 0))))), (7, (.d (.i .i64 p0))), (5, (.d (.b false))), (4, (.d (.i .i64 0))), (0, (.d (.i .i64 p0))), (1, (.d (.i .i64 p1)))], []⟩) (by kernel_rfl) ?_
        refine nil_in ?_
        refine next_in ?_
        refine ret_in ?_
        have h := Option.some.inj h; subst h
        exact retn_step (vs := [(.d (.i .i64 (IntKind.wrap .i64 (p0 * p1)))), (.d (.b true))]) (by kernel_rfl) (by kernel_rfl)
theorem OK_sTextValue (p0 : (List UInt8)) : FOk Try.prog 126 [(.d (.s (bs p0)))] (fun y => (vGValue y)) (sTextValue p0) := by
  intro r h
  rw [sTextValue] at h
  refine acalls_of_fn trsTextValue (Nat.le_of_ble_eq_true rfl) (by simp) ?_
  show avc Try.prog acsTextValue (qsTextValue _) ⟨[(0, (.d (.s (bs p0))))], []⟩
  delta acsTextValue
  refine seq_in ?_
  refine ops_in ?_
  refine sts_ok 1 (s' := ⟨[(2, (.ptr 2 0)), (0, (.d (.s (bs p0))))], [(2, [(.d (.i .i64 0)), (.d (.i .i64 0)), (.d (.s (bs [])))])]⟩) (by kernel_rfl) ?_
  refine nil_in ?_
  refine next_in ?_
  refine seq_in ?_
  refine ops_in ?_
  refine sts_ok 3 (s' := ⟨[(4, (vGValue (GValue.mk 2 0 p0))), (3, (.d (.s (bs p0)))), (2, (.ptr 2 0)), (0, (.d (.s (bs p0))))], [(2, [(.d (.i .i64 2)), (.d (.i .i64 0)), (.d (.s (bs p0)))])]⟩) (by kernel_rfl) ?_
  refine nil_in ?_
  refine next_in ?_
  refine ret_in ?_
  have h := Option.some.inj h; subst h
  exact ret1_step (v := (vGValue (GValue.mk 2 0 p0))) (by kernel_rfl) (by kernel_rfl) (by kernel_rfl)
theorem OK_sValueOk (p0 : GValue) : FOk Try.prog 122 [(vGValue p0)] (fun y => (.d (.b y))) (sValueOk p0) := by
  intro r h
  rw [sValueOk] at h
  refine acalls_of_fn trsValueOk (Nat.le_of_ble_eq_true rfl) (by simp) ?_
  show avc Try.prog acsValueOk (qsValueOk _) ⟨[(0, (vGValue p0))], []⟩
  delta acsValueOk
  refine seq_in ?_
  refine ops_in ?_
  refine sts_ok 2 (s' := ⟨[(2, (.d (.b false))), (1, (.ptr 1 0)), (0, (vGValue p0))], [(1, [(.d (.i .i64 p0.kind)), (.d (.i .i64 p0.num)), (.d (.s (bs p0.text)))])]⟩) (by kernel_rfl) ?_
  refine nil_in ?_
  refine next_in ?_
  refine seq_in ?_
  refine seq_in ?_
  refine ops_in ?_
  refine sts_ok 2 (s' := ⟨[(4, (.d (.i .i64 p0.kind))), (3, (.ptr 1 0)), (2, (.d (.b false))), (1, (.ptr 1 0)), (0, (vGValue p0))], [(1, [(.d (.i .i64 p0.kind)), (.d (.i .i64 p0.num)), (.d (.s (bs p0.text)))])]⟩) (by kernel_rfl) ?_
  refine nil_in ?_
  refine next_in ?_
  refine block_in ?_
  refine seq_in ?_
  refine ops_in ?_
  refine sts_ok 2 (s' := ⟨[(5, (.d (.b (decide (p0.kind = 0))))), (6, (.d (.b (decide (p0.kind = 0))))), (4, (.d (.i .i64 p0.kind))), (3, (.ptr 1 0)), (2, (.d (.b false))), (1, (.ptr 1 0)), (0, (vGValue p0))], [(1, [(.d (.i .i64 p0.kind)), (.d (.i .i64 p0.num)), (.d (.s (bs p0.text)))])]⟩) (by kernel_rfl) ?_
  refine nil_in ?_
  refine next_in ?_
  refine cond_step h (by kernel_rfl) ?_ ?_
  · clear h; intro h
    refine seq_in ?_
    refine ops_in ?_
    refine sts_ok 4 (s' := ⟨[(10, (.d (.b (decide (p0.num = 0))))), (9, (.d (.b (decide (p0.num = 0))))), (8, (.d (.i .i64 p0.num))), (7, (.ptr 1 1)), (5, (.d (.b (decide (p0.kind = 0))))), (6, (.d (.b (decide (p0.kind = 0))))), (4, (.d (.i .i64 p0.kind))), (3, (.ptr 1 0)), (2, (.d (.b false))), (1, (.ptr 1 0)), (0, (vGValue p0))], [(1, [(.d (.i .i64 p0.kind)), (.d (.i .i64 p0.num)), (.d (.s (bs p0.text)))])]⟩) (by kernel_rfl) ?_
    refine gp_step (p := true) (b := (decide (p0.num = 0))) (v' := (.ptr 1 2)) (by kernel_rfl) rfl rfl (fun hc => vop_val1 (by kernel_rfl) (by kernel_rfl)) ?_
    refine gp_step (p := true) (b := (decide (p0.num = 0))) (v' := (.d (.s (bs p0.text)))) (by kernel_rfl) rfl rfl (fun hc => vop_val1 (Eq.trans (b := ([(true && ((decide (p0.num = 0)) == true))] : List Bool).all id) (by kernel_rfl) (all_c hc rfl)) (by kernel_rfl)) ?_
    refine gp_step (p := true) (b := (decide (p0.num = 0))) (v' := (.d (.b (decide (p0.text = []))))) (by kernel_rfl) rfl rfl (fun hc => vop_val1 (Eq.trans (b := ([(true && ((decide (p0.num = 0)) == true))] : List Bool).all id) (by kernel_rfl) (all_c hc rfl)) (by kernel_rfl)) ?_
    refine p_step (v' := (.d (.b (if (decide (p0.num = 0)) = true then (decide (p0.text = [])) else false)))) rfl rfl (vop_pick (b := (decide (p0.num = 0))) (p := (true && ((decide (p0.num = 0)) == true))) (u := (decide (p0.text = []))) (q := true) (v := false) (by kernel_rfl) (by kernel_rfl) (by kernel_rfl) (by kernel_rfl) (fun hb => gc_t rfl hb) (fun _ => rfl)) ?_
    refine sts_ok 1 (s' := ⟨[(2, (.d (.b (if (decide (p0.num = 0)) = true then (decide (p0.text = [])) else false)))), (14, (.d (.b (if (decide (p0.num = 0)) = true then (decide (p0.text = [])) else false)))), (13, (.ite (true && ((decide (p0.num = 0)) == true)) (.d (.b (decide (p0.text = [])))))), (12, (.ite (true && ((decide (p0.num = 0)) == true)) (.d (.s (bs p0.text))))), (11, (.ite (true && ((decide (p0.num = 0)) == true)) (.ptr 1 2))), (10, (.d (.b (decide (p0.num = 0))))), (9, (.d (.b (decide (p0.num = 0))))), (8, (.d (.i .i64 p0.num))), (7, (.ptr 1 1)), (5, (.d (.b (decide (p0.kind = 0))))), (6, (.d (.b (decide (p0.kind = 0))))), (4, (.d (.i .i64 p0.kind))), (3, (.ptr 1 0)), (2, (.d (.b false))), (1, (.ptr 1 0)), (0, (vGValue p0))], [(1, [(.d (.i .i64 p0.kind)), (.d (.i .i64 p0.num)), (.d (.s (bs p0.text)))])]⟩) (by kernel_rfl) ?_
    refine nil_in ?_
    refine next_in ?_
    refine ret_in ?_
    refine blockK_ret ?_
    refine thenK_ret ?_
    have h := Option.some.inj h; subst h
    exact ret1_step (v := (.d (.b (if (decide (p0.num = 0)) = true then (decide (p0.text = [])) else false)))) (by kernel_rfl) (by kernel_rfl) (by kernel_rfl)
  · clear h; intro h
    refine seq_in ?_
    refine ops_in ?_
    refine sts_ok 2 (s' := ⟨[(15, (.d (.b (decide (p0.kind = 1))))), (16, (.d (.b (decide (p0.kind = 1))))), (5, (.d (.b (decide (p0.kind = 0))))), (6, (.d (.b (decide (p0.kind = 0))))), (4, (.d (.i .i64 p0.kind))), (3, (.ptr 1 0)), (2, (.d (.b false))), (1, (.ptr 1 0)), (0, (vGValue p0))], [(1, [(.d (.i .i64 p0.kind)), (.d (.i .i64 p0.num)), (.d (.s (bs p0.text)))])]⟩) (by kernel_rfl) ?_
    refine nil_in ?_
    refine next_in ?_
    refine cond_step h (by kernel_rfl) ?_ ?_
    · clear h; intro h
      refine seq_in ?_
      refine ops_in ?_
      refine sts_ok 4 (s' := ⟨[(2, (.d (.b (decide (p0.text = []))))), (19, (.d (.b (decide (p0.text = []))))), (18, (.d (.s (bs p0.text)))), (17, (.ptr 1 2)), (15, (.d (.b (decide (p0.kind = 1))))), (16, (.d (.b (decide (p0.kind = 1))))), (5, (.d (.b (decide (p0.kind = 0))))), (6, (.d (.b (decide (p0.kind = 0))))), (4, (.d (.i .i64 p0.kind))), (3, (.ptr 1 0)), (2, (.d (.b false))), (1, (.ptr 1 0)), (0, (vGValue p0))], [(1, [(.d (.i .i64 p0.kind)), (.d (.i .i64 p0.num)), (.d (.s (bs p0.text)))])]⟩) (by kernel_rfl) ?_
      refine nil_in ?_
      refine next_in ?_
      refine ret_in ?_
      refine blockK_ret ?_
      refine thenK_ret ?_
      have h := Option.some.inj h; subst h
      exact ret1_step (v := (.d (.b (decide (p0.text = []))))) (by kernel_rfl) (by kernel_rfl) (by kernel_rfl)
    · clear h; intro h
      refine seq_in ?_
      refine ops_in ?_
      refine sts_ok 2 (s' := ⟨[(20, (.d (.b (decide (p0.kind = 2))))), (21, (.d (.b (decide (p0.kind = 2))))), (15, (.d (.b (decide (p0.kind = 1))))), (16, (.d (.b (decide (p0.kind = 1))))), (5, (.d (.b (decide (p0.kind = 0))))), (6, (.d (.b (decide (p0.kind = 0))))), (4, (.d (.i .i64 p0.kind))), (3, (.ptr 1 0)), (2, (.d (.b false))), (1, (.ptr 1 0)), (0, (vGValue p0))], [(1, [(.d (.i .i64 p0.kind)), (.d (.i .i64 p0.num)), (.d (.s (bs p0.text)))])]⟩) (by kernel_rfl) ?_
      refine nil_in ?_
      refine next_in ?_
      refine cond_step h (by kernel_rfl) ?_ ?_
      · clear h; intro h
        refine seq_in ?_
        refine ops_in ?_
        refine sts_ok 4 (s' := ⟨[(25, (.d (.b (decide (p0.num = 0))))), (24, (.d (.b (decide (p0.num = 0))))), (23, (.d (.i .i64 p0.num))), (22, (.ptr 1 1)), (20, (.d (.b (decide (p0.kind = 2))))), (21, (.d (.b (decide (p0.kind = 2))))), (15, (.d (.b (decide (p0.kind = 1))))), (16, (.d (.b (decide (p0.kind = 1))))), (5, (.d (.b (decide (p0.kind = 0))))), (6, (.d (.b (decide (p0.kind = 0))))), (4, (.d (.i .i64 p0.kind))), (3, (.ptr 1 0)), (2, (.d (.b false))), (1, (.ptr 1 0)), (0, (vGValue p0))], [(1, [(.d (.i .i64 p0.kind)), (.d (.i .i64 p0.num)), (.d (.s (bs p0.text)))])]⟩) (by kernel_rfl) ?_
        refine gp_step (p := true) (b := (decide (p0.num = 0))) (v' := (.ptr 1 2)) (by kernel_rfl) rfl rfl (fun hc => vop_val1 (by kernel_rfl) (by kernel_rfl)) ?_
        refine gp_step (p := true) (b := (decide (p0.num = 0))) (v' := (.d (.s (bs p0.text)))) (by kernel_rfl) rfl rfl (fun hc => vop_val1 (Eq.trans (b := ([(true && ((decide (p0.num = 0)) == true))] : List Bool).all id) (by kernel_rfl) (all_c hc rfl)) (by kernel_rfl)) ?_
        refine gp_step (p := true) (b := (decide (p0.num = 0))) (v' := (.d (.i .i64 (p0.text.length : Int)))) (by kernel_rfl) rfl rfl (fun hc => vop_val1 (Eq.trans (b := ([(true && ((decide (p0.num = 0)) == true))] : List Bool).all id) (by kernel_rfl) (all_c hc rfl)) (by kernel_rfl)) ?_
        refine gp_step (p := true) (b := (decide (p0.num = 0))) (v' := (.d (.b (decide ((p0.text.length : Int) ≤ 200))))) (by kernel_rfl) rfl rfl (fun hc => vop_val1 (Eq.trans (b := ([(true && ((decide (p0.num = 0)) == true))] : List Bool).all id) (by kernel_rfl) (all_c hc rfl)) (by kernel_rfl)) ?_
        refine p_step (v' := (.d (.b (if (decide (p0.num = 0)) = true then (decide ((p0.text.length : Int) ≤ 200)) else false)))) rfl rfl (vop_pick (b := (decide (p0.num = 0))) (p := (true && ((decide (p0.num = 0)) == true))) (u := (decide ((p0.text.length : Int) ≤ 200))) (q := true) (v := false) (by kernel_rfl) (by kernel_rfl) (by kernel_rfl) (by kernel_rfl) (fun hb => gc_t rfl hb) (fun _ => rfl)) ?_
        refine sts_ok 1 (s' := ⟨[(2, (.d (.b (if (decide (p0.num = 0)) = true then (decide ((p0.text.length : Int) ≤ 200)) else false)))), (30, (.d (.b (if (decide (p0.num = 0)) = true then (decide ((p0.text.length : Int) ≤ 200)) else false)))), (29, (.ite (true && ((decide (p0.num = 0)) == true)) (.d (.b (decide ((p0.text.length : Int) ≤ 200)))))), (28, (.ite (true && ((decide (p0.num = 0)) == true)) (.d (.i .i64 (p0.text.length : Int))))), (27, (.ite (true && ((decide (p0.num = 0)) == true)) (.d (.s (bs p0.text))))), (26, (.ite (true && ((decide (p0.num = 0)) == true)) (.ptr 1 2))), (25, (.d (.b (decide (p0.num = 0))))), (24, (.d (.b (decide (p0.num = 0))))), (23, (.d (.i .i64 p0.num))), (22, (.ptr 1 1)), (20, (.d (.b (decide (p0.kind = 2))))), (21, (.d (.b (decide (p0.kind = 2))))), (15, (.d (.b (decide (p0.kind = 1))))), (16, (.d (.b (decide (p0.kind = 1))))), (5, (.d (.b (decide (p0.kind = 0))))), (6, (.d (.b (decide (p0.kind = 0))))), (4, (.d (.i .i64 p0.kind))), (3, (.ptr 1 0)), (2, (.d (.b false))), (1, (.ptr 1 0)), (0, (vGValue p0))], [(1, [(.d (.i .i64 p0.kind)), (.d (.i .i64 p0.num)), (.d (.s (bs p0.text)))])]⟩) (by kernel_rfl) ?_
        refine nil_in ?_
        refine next_in ?_
        refine ret_in ?_
        refine blockK_ret ?_
        refine thenK_ret ?_
        have h := Option.some.inj h; subst h
        exact ret1_step (v := (.d (.b (if (decide (p0.num = 0)) = true then (decide ((p0.text.length : Int) ≤ 200)) else false)))) (by kernel_rfl) (by kernel_rfl) (by kernel_rfl)
      · clear h; intro h
        refine seq_in ?_
        refine ops_in ?_
        refine sts_ok 2 (s' := ⟨[(31, (.d (.b (decide (p0.kind = 3))))), (32, (.d (.b (decide (p0.kind = 3))))), (20, (.d (.b (decide (p0.kind = 2))))), (21, (.d (.b (decide (p0.kind = 2))))), (15, (.d (.b (decide (p0.kind = 1))))), (16, (.d (.b (decide (p0.kind = 1))))), (5, (.d (.b (decide (p0.kind = 0))))), (6, (.d (.b (decide (p0.kind = 0))))), (4, (.d (.i .i64 p0.kind))), (3, (.ptr 1 0)), (2, (.d (.b false))), (1, (.ptr 1 0)), (0, (vGValue p0))], [(1, [(.d (.i .i64 p0.kind)), (.d (.i .i64 p0.num)), (.d (.s (bs p0.text)))])]⟩) (by kernel_rfl) ?_
        refine nil_in ?_
        refine next_in ?_
        refine cond_step h (by kernel_rfl) ?_ ?_
        · clear h; intro h
          refine seq_in ?_
          refine ops_in ?_
          refine sts_ok 2 (s' := ⟨[(34, (.d (.i .i64 p0.num))), (33, (.ptr 1 1)), (31, (.d (.b (decide (p0.kind = 3))))), (32, (.d (.b (decide (p0.kind = 3))))), (20, (.d (.b (decide (p0.kind = 2))))), (21, (.d (.b (decide (p0.kind = 2))))), (15, (.d (.b (decide (p0.kind = 1))))), (16, (.d (.b (decide (p0.kind = 1))))), (5, (.d (.b (decide (p0.kind = 0))))), (6, (.d (.b (decide (p0.kind = 0))))), (4, (.d (.i .i64 p0.kind))), (3, (.ptr 1 0)), (2, (.d (.b false))), (1, (.ptr 1 0)), (0, (vGValue p0))], [(1, [(.d (.i .i64 p0.kind)), (.d (.i .i64 p0.num)), (.d (.s (bs p0.text)))])]⟩) (by kernel_rfl) ?_
          refine call_step (m := sL1In p0.num 0 1) (args := [(.d (.i .i64 p0.num)), (.d (.i .i64 0)), (.d (.i .i64 1))]) (v' := (fun y => (.d (.b y)))) h (OK_sL1In p0.num 0 1) (by kernel_rfl) (by kernel_rfl) (fun _ => rfl) ?_
          clear h; intro y1 h
          refine sts_ok 1 (s' := ⟨[(36, (.d (.b y1))), (35, (.d (.b y1))), (34, (.d (.i .i64 p0.num))), (33, (.ptr 1 1)), (31, (.d (.b (decide (p0.kind = 3))))), (32, (.d (.b (decide (p0.kind = 3))))), (20, (.d (.b (decide (p0.kind = 2))))), (21, (.d (.b (decide (p0.kind = 2))))), (15, (.d (.b (decide (p0.kind = 1))))), (16, (.d (.b (decide (p0.kind = 1))))), (5, (.d (.b (decide (p0.kind = 0))))), (6, (.d (.b (decide (p0.kind = 0))))), (4, (.d (.i .i64 p0.kind))), (3, (.ptr 1 0)), (2, (.d (.b false))), (1, (.ptr 1 0)), (0, (vGValue p0))], [(1, [(.d (.i .i64 p0.kind)), (.d (.i .i64 p0.num)), (.d (.s (bs p0.text)))])]⟩) (by kernel_rfl) ?_
          refine gp_step (p := true) (b := y1) (v' := (.ptr 1 2)) (by kernel_rfl) rfl rfl (fun hc => vop_val1 (by kernel_rfl) (by kernel_rfl)) ?_
          refine gp_step (p := true) (b := y1) (v' := (.d (.s (bs p0.text)))) (by kernel_rfl) rfl rfl (fun hc => vop_val1 (Eq.trans (b := ([(true && (y1 == true))] : List Bool).all id) (by kernel_rfl) (all_c hc rfl)) (by kernel_rfl)) ?_
          refine gp_step (p := true) (b := y1) (v' := (.d (.b (decide (p0.text = []))))) (by kernel_rfl) rfl rfl (fun hc => vop_val1 (Eq.trans (b := ([(true && (y1 == true))] : List Bool).all id) (by kernel_rfl) (all_c hc rfl)) (by kernel_rfl)) ?_
          refine p_step (v' := (.d (.b (if y1 = true then (decide (p0.text = [])) else false)))) rfl rfl (vop_pick (b := y1) (p := (true && (y1 == true))) (u := (decide (p0.text = []))) (q := true) (v := false) (by kernel_rfl) (by kernel_rfl) (by kernel_rfl) (by kernel_rfl) (fun hb => gc_t rfl hb) (fun _ => rfl)) ?_
          refine sts_ok 1 (s' := ⟨[(2, (.d (.b (if y1 = true then (decide (p0.text = [])) else false)))), (40, (.d (.b (if y1 = true then (decide (p0.text = [])) else false)))), (39, (.ite (true && (y1 == true)) (.d (.b (decide (p0.text = [])))))), (38, (.ite (true && (y1 == true)) (.d (.s (bs p0.text))))), (37, (.ite (true && (y1 == true)) (.ptr 1 2))), (36, (.d (.b y1))), (35, (.d (.b y1))), (34, (.d (.i .i64 p0.num))), (33, (.ptr 1 1)), (31, (.d (.b (decide (p0.kind = 3))))), (32, (.d (.b (decide (p0.kind = 3))))), (20, (.d (.b (decide (p0.kind = 2))))), (21, (.d (.b (decide (p0.kind = 2))))), (15, (.d (.b (decide (p0.kind = 1))))), (16, (.d (.b (decide (p0.kind = 1))))), (5, (.d (.b (decide (p0.kind = 0))))), (6, (.d (.b (decide (p0.kind = 0))))), (4, (.d (.i .i64 p0.kind))), (3, (.ptr 1 0)), (2, (.d (.b false))), (1, (.ptr 1 0)), (0, (vGValue p0))], [(1, [(.d (.i .i64 p0.kind)), (.d (.i .i64 p0.num)), (.d (.s (bs p0.text)))])]⟩) (by kernel_rfl) ?_
          refine nil_in ?_
          refine next_in ?_
          refine ret_in ?_
          refine blockK_ret ?_
          refine thenK_ret ?_
          have h := Option.some.inj h; subst h
          exact ret1_step (v := (.d (.b (if y1 = true then (decide (p0.text = [])) else false)))) (by kernel_rfl) (by kernel_rfl) (by kernel_rfl)
        · clear h; intro h
          refine skip_in ?_
          refine blockK_norm ?_
          refine next_in ?_
          refine seq_in ?_
          refine ops_in ?_
          refine sts_ok 1 (s' := ⟨[(2, (.d (.b false))), (31, (.d (.b (decide (p0.kind = 3))))), (32, (.d (.b (decide (p0.kind = 3))))), (20, (.d (.b (decide (p0.kind = 2))))), (21, (.d (.b (decide (p0.kind = 2))))), (15, (.d (.b (decide (p0.kind = 1))))), (16, (.d (.b (decide (p0.kind = 1))))), (5, (.d (.b (decide (p0.kind = 0))))), (6, (.d (.b (decide (p0.kind = 0))))), (4, (.d (.i .i64 p0.kind))), (3, (.ptr 1 0)), (2, (.d (.b false))), (1, (.ptr 1 0)), (0, (vGValue p0))], [(1, [(.d (.i .i64 p0.kind)), (.d (.i .i64 p0.num)), (.d (.s (bs p0.text)))])]⟩) (by kernel_rfl) ?_
          refine nil_in ?_
          refine next_in ?_
          refine ret_in ?_
          have h := Option.some.inj h; subst h
          exact ret1_step (v := (.d (.b false))) (by kernel_rfl) (by kernel_rfl) (by kernel_rfl)
theorem OK_sCalc (p0 : Int) (p1 : GValue) (p2 : GValue) : FOk Try.prog 66 [(.d (.i .i64 p0)), (vGValue p1), (vGValue p2)] (fun y => (.tup [(vGValue y.1), (.d (.i .i64 y.2))])) (sCalc p0 p1 p2) := by
  intro r h
  rw [sCalc] at h
  refine acalls_of_fn trsCalc (Nat.le_of_ble_eq_true rfl) (by simp) ?_
  show avc Try.prog acsCalc (qsCalc _) ⟨[(0, (.d (.i .i64 p0))), (1, (vGValue p1)), (2, (vGValue p2))], []⟩
  delta acsCalc
  refine seq_in ?_
  refine ops_in ?_
  refine sts_ok 4 (s' := ⟨[(7, (.d (.i .i64 0))), (6, (.ptr 6 0)), (5, (.ptr 5 0)), (4, (.ptr 4 0)), (0, (.d (.i .i64 p0))), (1, (vGValue p1)), (2, (vGValue p2))], [(6, [(.d (.i .i64 0)), (.d (.i .i64 0)), (.d (.s (bs [])))]), (5, [(.d (.i .i64 p2.kind)), (.d (.i .i64 p2.num)), (.d (.s (bs p2.text)))]), (4, [(.d (.i .i64 p1.kind)), (.d (.i .i64 p1.num)), (.d (.s (bs p1.text)))])]⟩) (by kernel_rfl) ?_
  refine nil_in ?_
  refine next_in ?_
  refine seq_in ?_
  refine seq_in ?_
  refine ops_in ?_
  refine sts_ok 1 (s' := ⟨[(14, (.d (.i .i64 p0))), (7, (.d (.i .i64 0))), (6, (.ptr 6 0)), (5, (.ptr 5 0)), (4, (.ptr 4 0)), (0, (.d (.i .i64 p0))), (1, (vGValue p1)), (2, (vGValue p2))], [(6, [(.d (.i .i64 0)), (.d (.i .i64 0)), (.d (.s (bs [])))]), (5, [(.d (.i .i64 p2.kind)), (.d (.i .i64 p2.num)), (.d (.s (bs p2.text)))]), (4, [(.d (.i .i64 p1.kind)), (.d (.i .i64 p1.num)), (.d (.s (bs p1.text)))])]⟩) (by kernel_rfl) ?_
  refine call_step (m := sL1In p0 1 14) (args := [(.d (.i .i64 p0)), (.d (.i .i64 1)), (.d (.i .i64 14))]) (v' := (fun y => (.d (.b y)))) h (OK_sL1In p0 1 14) (by kernel_rfl) (by kernel_rfl) (fun _ => rfl) ?_
  clear h; intro y1 h
  refine sts_ok 2 (s' := ⟨[(17, (.d (.b (!y1)))), (16, (.d (.b (!y1)))), (15, (.d (.b y1))), (14, (.d (.i .i64 p0))), (7, (.d (.i .i64 0))), (6, (.ptr 6 0)), (5, (.ptr 5 0)), (4, (.ptr 4 0)), (0, (.d (.i .i64 p0))), (1, (vGValue p1)), (2, (vGValue p2))], [(6, [(.d (.i .i64 0)), (.d (.i .i64 0)), (.d (.s (bs [])))]), (5, [(.d (.i .i64 p2.kind)), (.d (.i .i64 p2.num)), (.d (.s (bs p2.text)))]), (4, [(.d (.i .i64 p1.kind)), (.d (.i .i64 p1.num)), (.d (.s (bs p1.text)))])]⟩) (by kernel_rfl) ?_
  refine gp_step (p := true) (b := (!y1)) (v' := (vGValue p1)) (by kernel_rfl) rfl rfl (fun hc => vop_val1 (by kernel_rfl) (by kernel_rfl)) ?_
  refine gcall_step (p := true) (b := (!y1)) (m := sValueOk p1) (dflt := default) (args := [(vGValue p1)]) (v' := (fun y => (.d (.b y)))) h (by kernel_rfl) (OK_sValueOk p1) (fun hc => by kernel_rfl) (by kernel_rfl) (fun _ => rfl) (fun hc => (Eq.trans (b := ([(true && ((!y1) == false))] : List Bool).all id) (by kernel_rfl) (all_c hc rfl))) ?_
  clear h; intro y2 h
  refine gp_step (p := true) (b := (!y1)) (v' := (.d (.b (!y2)))) (by kernel_rfl) rfl rfl (fun hc => vop_val1 (Eq.trans (b := ([(true && ((!y1) == false))] : List Bool).all id) (by kernel_rfl) (all_c hc rfl)) (by kernel_rfl)) ?_
  refine p_step (v' := (.d (.b (if (!y1) = true then true else (!y2))))) rfl rfl (vop_pick (b := (!y1)) (p := true) (u := true) (q := (true && ((!y1) == false))) (v := (!y2)) (by kernel_rfl) (by kernel_rfl) (by kernel_rfl) (by kernel_rfl) (fun _ => rfl) (fun hb => gc_f rfl hb)) ?_
  refine sts_ok 1 (s' := ⟨[(22, (.d (.b (if (!y1) = true then true else (!y2))))), (21, (.d (.b (if (!y1) = true then true else (!y2))))), (20, (.ite (true && ((!y1) == false)) (.d (.b (!y2))))), (19, (.ite (true && ((!y1) == false)) (.d (.b y2)))), (18, (.ite (true && ((!y1) == false)) (vGValue p1))), (17, (.d (.b (!y1)))), (16, (.d (.b (!y1)))), (15, (.d (.b y1))), (14, (.d (.i .i64 p0))), (7, (.d (.i .i64 0))), (6, (.ptr 6 0)), (5, (.ptr 5 0)), (4, (.ptr 4 0)), (0, (.d (.i .i64 p0))), (1, (vGValue p1)), (2, (vGValue p2))], [(6, [(.d (.i .i64 0)), (.d (.i .i64 0)), (.d (.s (bs [])))]), (5, [(.d (.i .i64 p2.kind)), (.d (.i .i64 p2.num)), (.d (.s (bs p2.text)))]), (4, [(.d (.i .i64 p1.kind)), (.d (.i .i64 p1.num)), (.d (.s (bs p1.text)))])]⟩) (by kernel_rfl) ?_
  refine gp_step (p := true) (b := (if (!y1) = true then true else (!y2))) (v' := (vGValue p2)) (by kernel_rfl) rfl rfl (fun hc => vop_val1 (by kernel_rfl) (by kernel_rfl)) ?_
  refine gcall_step (p := true) (b := (if (!y1) = true then true else (!y2))) (m := sValueOk p2) (dflt := default) (args := [(vGValue p2)]) (v' := (fun y => (.d (.b y)))) h (by kernel_rfl) (OK_sValueOk p2) (fun hc => by kernel_rfl) (by kernel_rfl) (fun _ => rfl) (fun hc => (Eq.trans (b := ([(true && ((if (!y1) = true then true else (!y2)) == false))] : List Bool).all id) (by kernel_rfl) (all_c hc rfl))) ?_
  clear h; intro y3 h
  refine gp_step (p := true) (b := (if (!y1) = true then true else (!y2))) (v' := (.d (.b (!y3)))) (by kernel_rfl) rfl rfl (fun hc => vop_val1 (Eq.trans (b := ([(true && ((if (!y1) = true then true else (!y2)) == false))] : List Bool).all id) (by kernel_rfl) (all_c hc rfl)) (by kernel_rfl)) ?_
  refine p_step (v' := (.d (.b (if (if (!y1) = true then true else (!y2)) = true then true else (!y3))))) rfl rfl (vop_pick (b := (if (!y1) = true then true else (!y2))) (p := true) (u := true) (q := (true && ((if (!y1) = true then true else (!y2)) == false))) (v := (!y3)) (by kernel_rfl) (by kernel_rfl) (by kernel_rfl) (by kernel_rfl) (fun _ => rfl) (fun hb => gc_f rfl hb)) ?_
  refine nil_in ?_
  refine next_in ?_
  refine cond_step h (by kernel_rfl) ?_ ?_
  · clear h; intro h
    refine seq_in ?_
    refine ops_in ?_
    refine sts_ok 3 (s' := ⟨[(7, (.d (.i .i64 1))), (27, (vGValue (GValue.mk 0 0 []))), (26, (.d (.b (if (if (!y1) = true then true else (!y2)) = true then true else (!y3))))), (25, (.ite (true && ((if (!y1) = true then true else (!y2)) == false)) (.d (.b (!y3))))), (24, (.ite (true && ((if (!y1) = true then true else (!y2)) == false)) (.d (.b y3)))), (23, (.ite (true && ((if (!y1) = true then true else (!y2)) == false)) (vGValue p2))), (22, (.d (.b (if (!y1) = true then true else (!y2))))), (21, (.d (.b (if (!y1) = true then true else (!y2))))), (20, (.ite (true && ((!y1) == false)) (.d (.b (!y2))))), (19, (.ite (true && ((!y1) == false)) (.d (.b y2)))), (18, (.ite (true && ((!y1) == false)) (vGValue p1))), (17, (.d (.b (!y1)))), (16, (.d (.b (!y1)))), (15, (.d (.b y1))), (14, (.d (.i .i64 p0))), (7, (.d (.i .i64 0))), (6, (.ptr 6 0)), (5, (.ptr 5 0)), (4, (.ptr 4 0)), (0, (.d (.i .i64 p0))), (1, (vGValue p1)), (2, (vGValue p2))], [(6, [(.d (.i .i64 0)), (.d (.i .i64 0)), (.d (.s (bs [])))]), (5, [(.d (.i .i64 p2.kind)), (.d (.i .i64 p2.num)), (.d (.s (bs p2.text)))]), (4, [(.d (.i .i64 p1.kind)), (.d (.i .i64 p1.num)), (.d (.s (bs p1.text)))])]⟩) (by kernel_rfl) ?_
    refine nil_in ?_
    refine next_in ?_
    refine ret_in ?_
    refine thenK_ret ?_
    have h := Option.some.inj h; subst h
    exact retn_step (vs := [(vGValue (GValue.mk 0 0 [])), (.d (.i .i64 1))]) (by kernel_rfl) (by kernel_rfl)
  · clear h; intro h
    refine skip_in ?_
    refine next_in ?_
    refine seq_in ?_
    refine seq_in ?_
    refine ops_in ?_
    refine sts_ok 2 (s' := ⟨[(29, (.d (.b (decide (p0 ≤ 2))))), (28, (.d (.i .i64 p0))), (26, (.d (.b (if (if (!y1) = true then true else (!y2)) = true then true else (!y3))))), (25, (.ite (true && ((if (!y1) = true then true else (!y2)) == false)) (.d (.b (!y3))))), (24, (.ite (true && ((if (!y1) = true then true else (!y2)) == false)) (.d (.b y3)))), (23, (.ite (true && ((if (!y1) = true then true else (!y2)) == false)) (vGValue p2))), (22, (.d (.b (if (!y1) = true then true else (!y2))))), (21, (.d (.b (if (!y1) = true then true else (!y2))))), (20, (.ite (true && ((!y1) == false)) (.d (.b (!y2))))), (19, (.ite (true && ((!y1) == false)) (.d (.b y2)))), (18, (.ite (true && ((!y1) == false)) (vGValue p1))), (17, (.d (.b (!y1)))), (16, (.d (.b (!y1)))), (15, (.d (.b y1))), (14, (.d (.i .i64 p0))), (7, (.d (.i .i64 0))), (6, (.ptr 6 0)), (5, (.ptr 5 0)), (4, (.ptr 4 0)), (0, (.d (.i .i64 p0))), (1, (vGValue p1)), (2, (vGValue p2))], [(6, [(.d (.i .i64 0)), (.d (.i .i64 0)), (.d (.s (bs [])))]), (5, [(.d (.i .i64 p2.kind)), (.d (.i .i64 p2.num)), (.d (.s (bs p2.text)))]), (4, [(.d (.i .i64 p1.kind)), (.d (.i .i64 p1.num)), (.d (.s (bs p1.text)))])]⟩) (by kernel_rfl) ?_
    refine nil_in ?_
    refine next_in ?_
    refine cond_step h (by kernel_rfl) ?_ ?_
    · clear h; intro h
      refine seq_in ?_
      refine ops_in ?_
      refine sts_ok 3 (s' := ⟨[(32, (vGValue p2)), (31, (vGValue p1)), (30, (.d (.i .i64 p0))), (29, (.d (.b (decide (p0 ≤ 2))))), (28, (.d (.i .i64 p0))), (26, (.d (.b (if (if (!y1) = true then true else (!y2)) = true then true else (!y3))))), (25, (.ite (true && ((if (!y1) = true then true else (!y2)) == false)) (.d (.b (!y3))))), (24, (.ite (true && ((if (!y1) = true then true else (!y2)) == false)) (.d (.b y3)))), (23, (.ite (true && ((if (!y1) = true then true else (!y2)) == false)) (vGValue p2))), (22, (.d (.b (if (!y1) = true then true else (!y2))))), (21, (.d (.b (if (!y1) = true then true else (!y2))))), (20, (.ite (true && ((!y1) == false)) (.d (.b (!y2))))), (19, (.ite (true && ((!y1) == false)) (.d (.b y2)))), (18, (.ite (true && ((!y1) == false)) (vGValue p1))), (17, (.d (.b (!y1)))), (16, (.d (.b (!y1)))), (15, (.d (.b y1))), (14, (.d (.i .i64 p0))), (7, (.d (.i .i64 0))), (6, (.ptr 6 0)), (5, (.ptr 5 0)), (4, (.ptr 4 0)), (0, (.d (.i .i64 p0))), (1, (vGValue p1)), (2, (vGValue p2))], [(6, [(.d (.i .i64 0)), (.d (.i .i64 0)), (.d (.s (bs [])))]), (5, [(.d (.i .i64 p2.kind)), (.d (.i .i64 p2.num)), (.d (.s (bs p2.text)))]), (4, [(.d (.i .i64 p1.kind)), (.d (.i .i64 p1.num)), (.d (.s (bs p1.text)))])]⟩) (by kernel_rfl) ?_
      refine call_step (m := sL6Logic p0 p1 p2) (args := [(.d (.i .i64 p0)), (vGValue p1), (vGValue p2)]) (v' := (fun y => (.tup [(vGValue y.1), (.d (.i .i64 y.2))]))) h (OK_sL6Logic p0 p1 p2) (by kernel_rfl) (by kernel_rfl) (fun _ => rfl) ?_
      clear h; intro y4 h
      refine sts_ok 4 (s' := ⟨[(7, (.d (.i .i64 y4.2))), (35, (.d (.i .i64 y4.2))), (34, (vGValue y4.1)), (33, (.tup [(vGValue y4.1), (.d (.i .i64 y4.2))])), (32, (vGValue p2)), (31, (vGValue p1)), (30, (.d (.i .i64 p0))), (29, (.d (.b (decide (p0 ≤ 2))))), (28, (.d (.i .i64 p0))), (26, (.d (.b (if (if (!y1) = true then true else (!y2)) = true then true else (!y3))))), (25, (.ite (true && ((if (!y1) = true then true else (!y2)) == false)) (.d (.b (!y3))))), (24, (.ite (true && ((if (!y1) = true then true else (!y2)) == false)) (.d (.b y3)))), (23, (.ite (true && ((if (!y1) = true then true else (!y2)) == false)) (vGValue p2))), (22, (.d (.b (if (!y1) = true then true else (!y2))))), (21, (.d (.b (if (!y1) = true then true else (!y2))))), (20, (.ite (true && ((!y1) == false)) (.d (.b (!y2))))), (19, (.ite (true && ((!y1) == false)) (.d (.b y2)))), (18, (.ite (true && ((!y1) == false)) (vGValue p1))), (17, (.d (.b (!y1)))), (16, (.d (.b (!y1)))), (15, (.d (.b y1))), (14, (.d (.i .i64 p0))), (7, (.d (.i .i64 0))), (6, (.ptr 6 0)), (5, (.ptr 5 0)), (4, (.ptr 4 0)), (0, (.d (.i .i64 p0))), (1, (vGValue p1)), (2, (vGValue p2))], [(6, [(.d (.i .i64 y4.1.kind)), (.d (.i .i64 y4.1.num)), (.d (.s (bs y4.1.text)))]), (5, [(.d (.i .i64 p2.kind)), (.d (.i .i64 p2.num)), (.d (.s (bs p2.text)))]), (4, [(.d (.i .i64 p1.kind)), (.d (.i .i64 p1.num)), (.d (.s (bs p1.text)))])]⟩) (by kernel_rfl) ?_
      refine nil_in ?_
      refine next_in ?_
      refine ret_in ?_
      refine thenK_ret ?_
      have h := Option.some.inj h; subst h
      exact retn_step (vs := [(vGValue y4.1), (.d (.i .i64 y4.2))]) (by kernel_rfl) (by kernel_rfl)
    · clear h; intro h
      refine skip_in ?_
      refine next_in ?_
      refine seq_in ?_
      refine seq_in ?_
      refine ops_in ?_
      refine sts_ok 3 (s' := ⟨[(38, (vGValue p2)), (37, (vGValue p1)), (36, (.d (.i .i64 p0))), (29, (.d (.b (decide (p0 ≤ 2))))), (28, (.d (.i .i64 p0))), (26, (.d (.b (if (if (!y1) = true then true else (!y2)) = true then true else (!y3))))), (25, (.ite (true && ((if (!y1) = true then true else (!y2)) == false)) (.d (.b (!y3))))), (24, (.ite (true && ((if (!y1) = true then true else (!y2)) == false)) (.d (.b y3)))), (23, (.ite (true && ((if (!y1) = true then true else (!y2)) == false)) (vGValue p2))), (22, (.d (.b (if (!y1) = true then true else (!y2))))), (21, (.d (.b (if (!y1) = true then true else (!y2))))), (20, (.ite (true && ((!y1) == false)) (.d (.b (!y2))))), (19, (.ite (true && ((!y1) == false)) (.d (.b y2)))), (18, (.ite (true && ((!y1) == false)) (vGValue p1))), (17, (.d (.b (!y1)))), (16, (.d (.b (!y1)))), (15, (.d (.b y1))), (14, (.d (.i .i64 p0))), (7, (.d (.i .i64 0))), (6, (.ptr 6 0)), (5, (.ptr 5 0)), (4, (.ptr 4 0)), (0, (.d (.i .i64 p0))), (1, (vGValue p1)), (2, (vGValue p2))], [(6, [(.d (.i .i64 0)), (.d (.i .i64 0)), (.d (.s (bs [])))]), (5, [(.d (.i .i64 p2.kind)), (.d (.i .i64 p2.num)), (.d (.s (bs p2.text)))]), (4, [(.d (.i .i64 p1.kind)), (.d (.i .i64 p1.num)), (.d (.s (bs p1.text)))])]⟩) (by kernel_rfl) ?_
      refine call_step (m := sL6Types p0 p1 p2) (args := [(.d (.i .i64 p0)), (vGValue p1), (vGValue p2)]) (v' := (fun y => (.d (.b y)))) h (OK_sL6Types p0 p1 p2) (by kernel_rfl) (by kernel_rfl) (fun _ => rfl) ?_
      clear h; intro y5 h
      refine sts_ok 1 (s' := ⟨[(40, (.d (.b (!y5)))), (39, (.d (.b y5))), (38, (vGValue p2)), (37, (vGValue p1)), (36, (.d (.i .i64 p0))), (29, (.d (.b (decide (p0 ≤ 2))))), (28, (.d (.i .i64 p0))), (26, (.d (.b (if (if (!y1) = true then true else (!y2)) = true then true else (!y3))))), (25, (.ite (true && ((if (!y1) = true then true else (!y2)) == false)) (.d (.b (!y3))))), (24, (.ite (true && ((if (!y1) = true then true else (!y2)) == false)) (.d (.b y3)))), (23, (.ite (true && ((if (!y1) = true then true else (!y2)) == false)) (vGValue p2))), (22, (.d (.b (if (!y1) = true then true else (!y2))))), (21, (.d (.b (if (!y1) = true then true else (!y2))))), (20, (.ite (true && ((!y1) == false)) (.d (.b (!y2))))), (19, (.ite (true && ((!y1) == false)) (.d (.b y2)))), (18, (.ite (true && ((!y1) == false)) (vGValue p1))), (17, (.d (.b (!y1)))), (16, (.d (.b (!y1)))), (15, (.d (.b y1))), (14, (.d (.i .i64 p0))), (7, (.d (.i .i64 0))), (6, (.ptr 6 0)), (5, (.ptr 5 0)), (4, (.ptr 4 0)), (0, (.d (.i .i64 p0))), (1, (vGValue p1)), (2, (vGValue p2))], [(6, [(.d (.i .i64 0)), (.d (.i .i64 0)), (.d (.s (bs [])))]), (5, [(.d (.i .i64 p2.kind)), (.d (.i .i64 p2.num)), (.d (.s (bs p2.text)))]), (4, [(.d (.i .i64 p1.kind)), (.d (.i .i64 p1.num)), (.d (.s (bs p1.text)))])]⟩) (by kernel_rfl) ?_
      refine nil_in ?_
      refine next_in ?_
      refine cond_step h (by kernel_rfl) ?_ ?_
      · clear h; intro h
        refine seq_in ?_
        refine ops_in ?_
        refine sts_ok 3 (s' := ⟨[(7, (.d (.i .i64 1))), (41, (vGValue (GValue.mk 0 0 []))), (40, (.d (.b (!y5)))), (39, (.d (.b y5))), (38, (vGValue p2)), (37, (vGValue p1)), (36, (.d (.i .i64 p0))), (29, (.d (.b (decide (p0 ≤ 2))))), (28, (.d (.i .i64 p0))), (26, (.d (.b (if (if (!y1) = true then true else (!y2)) = true then true else (!y3))))), (25, (.ite (true && ((if (!y1) = true then true else (!y2)) == false)) (.d (.b (!y3))))), (24, (.ite (true && ((if (!y1) = true then true else (!y2)) == false)) (.d (.b y3)))), (23, (.ite (true && ((if (!y1) = true then true else (!y2)) == false)) (vGValue p2))), (22, (.d (.b (if (!y1) = true then true else (!y2))))), (21, (.d (.b (if (!y1) = true then true else (!y2))))), (20, (.ite (true && ((!y1) == false)) (.d (.b (!y2))))), (19, (.ite (true && ((!y1) == false)) (.d (.b y2)))), (18, (.ite (true && ((!y1) == false)) (vGValue p1))), (17, (.d (.b (!y1)))), (16, (.d (.b (!y1)))), (15, (.d (.b y1))), (14, (.d (.i .i64 p0))), (7, (.d (.i .i64 0))), (6, (.ptr 6 0)), (5, (.ptr 5 0)), (4, (.ptr 4 0)), (0, (.d (.i .i64 p0))), (1, (vGValue p1)), (2, (vGValue p2))], [(6, [(.d (.i .i64 0)), (.d (.i .i64 0)), (.d (.s (bs [])))]), (5, [(.d (.i .i64 p2.kind)), (.d (.i .i64 p2.num)), (.d (.s (bs p2.text)))]), (4, [(.d (.i .i64 p1.kind)), (.d (.i .i64 p1.num)), (.d (.s (bs p1.text)))])]⟩) (by kernel_rfl) ?_
        refine nil_in ?_
        refine next_in ?_
        refine ret_in ?_
        refine thenK_ret ?_
        have h := Option.some.inj h; subst h
        exact retn_step (vs := [(vGValue (GValue.mk 0 0 [])), (.d (.i .i64 1))]) (by kernel_rfl) (by kernel_rfl)
      · clear h; intro h
        refine skip_in ?_
        refine next_in ?_
        refine seq_in ?_
        refine seq_in ?_
        refine ops_in ?_
        refine sts_ok 1 (s' := ⟨[(42, (vGValue p1)), (40, (.d (.b (!y5)))), (39, (.d (.b y5))), (38, (vGValue p2)), (37, (vGValue p1)), (36, (.d (.i .i64 p0))), (29, (.d (.b (decide (p0 ≤ 2))))), (28, (.d (.i .i64 p0))), (26, (.d (.b (if (if (!y1) = true then true else (!y2)) = true then true else (!y3))))), (25, (.ite (true && ((if (!y1) = true then true else (!y2)) == false)) (.d (.b (!y3))))), (24, (.ite (true && ((if (!y1) = true then true else (!y2)) == false)) (.d (.b y3)))), (23, (.ite (true && ((if (!y1) = true then true else (!y2)) == false)) (vGValue p2))), (22, (.d (.b (if (!y1) = true then true else (!y2))))), (21, (.d (.b (if (!y1) = true then true else (!y2))))), (20, (.ite (true && ((!y1) == false)) (.d (.b (!y2))))), (19, (.ite (true && ((!y1) == false)) (.d (.b y2)))), (18, (.ite (true && ((!y1) == false)) (vGValue p1))), (17, (.d (.b (!y1)))), (16, (.d (.b (!y1)))), (15, (.d (.b y1))), (14, (.d (.i .i64 p0))), (7, (.d (.i .i64 0))), (6, (.ptr 6 0)), (5, (.ptr 5 0)), (4, (.ptr 4 0)), (0, (.d (.i .i64 p0))), (1, (vGValue p1)), (2, (vGValue p2))], [(6, [(.d (.i .i64 0)), (.d (.i .i64 0)), (.d (.s (bs [])))]), (5, [(.d (.i .i64 p2.kind)), (.d (.i .i64 p2.num)), (.d (.s (bs p2.text)))]), (4, [(.d (.i .i64 p1.kind)), (.d (.i .i64 p1.num)), (.d (.s (bs p1.text)))])]⟩) (by kernel_rfl) ?_
        refine call_step (m := sL6Null p1) (args := [(vGValue p1)]) (v' := (fun y => (.d (.b y)))) h (OK_sL6Null p1) (by kernel_rfl) (by kernel_rfl) (fun _ => rfl) ?_
        clear h; intro y6 h
        refine sts_ok 1 (s' := ⟨[(44, (.d (.b y6))), (43, (.d (.b y6))), (42, (vGValue p1)), (40, (.d (.b (!y5)))), (39, (.d (.b y5))), (38, (vGValue p2)), (37, (vGValue p1)), (36, (.d (.i .i64 p0))), (29, (.d (.b (decide (p0 ≤ 2))))), (28, (.d (.i .i64 p0))), (26, (.d (.b (if (if (!y1) = true then true else (!y2)) = true then true else (!y3))))), (25, (.ite (true && ((if (!y1) = true then true else (!y2)) == false)) (.d (.b (!y3))))), (24, (.ite (true && ((if (!y1) = true then true else (!y2)) == false)) (.d (.b y3)))), (23, (.ite (true && ((if (!y1) = true then true else (!y2)) == false)) (vGValue p2))), (22, (.d (.b (if (!y1) = true then true else (!y2))))), (21, (.d (.b (if (!y1) = true then true else (!y2))))), (20, (.ite (true && ((!y1) == false)) (.d (.b (!y2))))), (19, (.ite (true && ((!y1) == false)) (.d (.b y2)))), (18, (.ite (true && ((!y1) == false)) (vGValue p1))), (17, (.d (.b (!y1)))), (16, (.d (.b (!y1)))), (15, (.d (.b y1))), (14, (.d (.i .i64 p0))), (7, (.d (.i .i64 0))), (6, (.ptr 6 0)), (5, (.ptr 5 0)), (4, (.ptr 4 0)), (0, (.d (.i .i64 p0))), (1, (vGValue p1)), (2, (vGValue p2))], [(6, [(.d (.i .i64 0)), (.d (.i .i64 0)), (.d (.s (bs [])))]), (5, [(.d (.i .i64 p2.kind)), (.d (.i .i64 p2.num)), (.d (.s (bs p2.text)))]), (4, [(.d (.i .i64 p1.kind)), (.d (.i .i64 p1.num)), (.d (.s (bs p1.text)))])]⟩) (by kernel_rfl) ?_
        refine gp_step (p := true) (b := y6) (v' := (vGValue p2)) (by kernel_rfl) rfl rfl (fun hc => vop_val1 (by kernel_rfl) (by kernel_rfl)) ?_
        refine gcall_step (p := true) (b := y6) (m := sL6Null p2) (dflt := default) (args := [(vGValue p2)]) (v' := (fun y => (.d (.b y)))) h (by kernel_rfl) (OK_sL6Null p2) (fun hc => by kernel_rfl) (by kernel_rfl) (fun _ => rfl) (fun hc => (Eq.trans (b := ([(true && (y6 == false))] : List Bool).all id) (by kernel_rfl) (all_c hc rfl))) ?_
        clear h; intro y7 h
        refine p_step (v' := (.d (.b (if y6 = true then true else y7)))) rfl rfl (vop_pick (b := y6) (p := true) (u := true) (q := (true && (y6 == false))) (v := y7) (by kernel_rfl) (by kernel_rfl) (by kernel_rfl) (by kernel_rfl) (fun _ => rfl) (fun hb => gc_f rfl hb)) ?_
        refine nil_in ?_
        refine next_in ?_
        refine cond_step h (by kernel_rfl) ?_ ?_
        · clear h; intro h
          refine seq_in ?_
          refine ops_in ?_
          refine sts_ok 3 (s' := ⟨[(7, (.d (.i .i64 0))), (48, (vGValue (GValue.mk 0 0 []))), (47, (.d (.b (if y6 = true then true else y7)))), (46, (.ite (true && (y6 == false)) (.d (.b y7)))), (45, (.ite (true && (y6 == false)) (vGValue p2))), (44, (.d (.b y6))), (43, (.d (.b y6))), (42, (vGValue p1)), (40, (.d (.b (!y5)))), (39, (.d (.b y5))), (38, (vGValue p2)), (37, (vGValue p1)), (36, (.d (.i .i64 p0))), (29, (.d (.b (decide (p0 ≤ 2))))), (28, (.d (.i .i64 p0))), (26, (.d (.b (if (if (!y1) = true then true else (!y2)) = true then true else (!y3))))), (25, (.ite (true && ((if (!y1) = true then true else (!y2)) == false)) (.d (.b (!y3))))), (24, (.ite (true && ((if (!y1) = true then true else (!y2)) == false)) (.d (.b y3)))), (23, (.ite (true && ((if (!y1) = true then true else (!y2)) == false)) (vGValue p2))), (22, (.d (.b (if (!y1) = true then true else (!y2))))), (21, (.d (.b (if (!y1) = true then true else (!y2))))), (20, (.ite (true && ((!y1) == false)) (.d (.b (!y2))))), (19, (.ite (true && ((!y1) == false)) (.d (.b y2)))), (18, (.ite (true && ((!y1) == false)) (vGValue p1))), (17, (.d (.b (!y1)))), (16, (.d (.b (!y1)))), (15, (.d (.b y1))), (14, (.d (.i .i64 p0))), (7, (.d (.i .i64 0))), (6, (.ptr 6 0)), (5, (.ptr 5 0)), (4, (.ptr 4 0)), (0, (.d (.i .i64 p0))), (1, (vGValue p1)), (2, (vGValue p2))], [(6, [(.d (.i .i64 0)), (.d (.i .i64 0)), (.d (.s (bs [])))]), (5, [(.d (.i .i64 p2.kind)), (.d (.i .i64 p2.num)), (.d (.s (bs p2.text)))]), (4, [(.d (.i .i64 p1.kind)), (.d (.i .i64 p1.num)), (.d (.s (bs p1.text)))])]⟩) (by kernel_rfl) ?_
          refine nil_in ?_
          refine next_in ?_
          refine ret_in ?_
          refine thenK_ret ?_
          have h := Option.some.inj h; subst h
          exact retn_step (vs := [(vGValue (GValue.mk 0 0 [])), (.d (.i .i64 0))]) (by kernel_rfl) (by kernel_rfl)
        · clear h; intro h
          refine skip_in ?_
          refine next_in ?_
          refine seq_in ?_
          refine seq_in ?_
          refine ops_in ?_
          refine sts_ok 1 (s' := ⟨[(49, (.d (.i .i64 p0))), (47, (.d (.b (if y6 = true then true else y7)))), (46, (.ite (true && (y6 == false)) (.d (.b y7)))), (45, (.ite (true && (y6 == false)) (vGValue p2))), (44, (.d (.b y6))), (43, (.d (.b y6))), (42, (vGValue p1)), (40, (.d (.b (!y5)))), (39, (.d (.b y5))), (38, (vGValue p2)), (37, (vGValue p1)), (36, (.d (.i .i64 p0))), (29, (.d (.b (decide (p0 ≤ 2))))), (28, (.d (.i .i64 p0))), (26, (.d (.b (if (if (!y1) = true then true else (!y2)) = true then true else (!y3))))), (25, (.ite (true && ((if (!y1) = true then true else (!y2)) == false)) (.d (.b (!y3))))), (24, (.ite (true && ((if (!y1) = true then true else (!y2)) == false)) (.d (.b y3)))), (23, (.ite (true && ((if (!y1) = true then true else (!y2)) == false)) (vGValue p2))), (22, (.d (.b (if (!y1) = true then true else (!y2))))), (21, (.d (.b (if (!y1) = true then true else (!y2))))), (20, (.ite (true && ((!y1) == false)) (.d (.b (!y2))))), (19, (.ite (true && ((!y1) == false)) (.d (.b y2)))), (18, (.ite (true && ((!y1) == false)) (vGValue p1))), (17, (.d (.b (!y1)))), (16, (.d (.b (!y1)))), (15, (.d (.b y1))), (14, (.d (.i .i64 p0))), (7, (.d (.i .i64 0))), (6, (.ptr 6 0)), (5, (.ptr 5 0)), (4, (.ptr 4 0)), (0, (.d (.i .i64 p0))), (1, (vGValue p1)), (2, (vGValue p2))], [(6, [(.d (.i .i64 0)), (.d (.i .i64 0)), (.d (.s (bs [])))]), (5, [(.d (.i .i64 p2.kind)), (.d (.i .i64 p2.num)), (.d (.s (bs p2.text)))]), (4, [(.d (.i .i64 p1.kind)), (.d (.i .i64 p1.num)), (.d (.s (bs p1.text)))])]⟩) (by kernel_rfl) ?_
          refine nil_in ?_
          refine next_in ?_
          refine block_in ?_
          refine seq_in ?_
          refine ops_in ?_
          refine sts_ok 2 (s' := ⟨[(50, (.d (.b (decide (p0 = 9))))), (51, (.d (.b (decide (p0 = 9))))), (49, (.d (.i .i64 p0))), (47, (.d (.b (if y6 = true then true else y7)))), (46, (.ite (true && (y6 == false)) (.d (.b y7)))), (45, (.ite (true && (y6 == false)) (vGValue p2))), (44, (.d (.b y6))), (43, (.d (.b y6))), (42, (vGValue p1)), (40, (.d (.b (!y5)))), (39, (.d (.b y5))), (38, (vGValue p2)), (37, (vGValue p1)), (36, (.d (.i .i64 p0))), (29, (.d (.b (decide (p0 ≤ 2))))), (28, (.d (.i .i64 p0))), (26, (.d (.b (if (if (!y1) = true then true else (!y2)) = true then true else (!y3))))), (25, (.ite (true && ((if (!y1) = true then true else (!y2)) == false)) (.d (.b (!y3))))), (24, (.ite (true && ((if (!y1) = true then true else (!y2)) == false)) (.d (.b y3)))), (23, (.ite (true && ((if (!y1) = true then true else (!y2)) == false)) (vGValue p2))), (22, (.d (.b (if (!y1) = true then true else (!y2))))), (21, (.d (.b (if (!y1) = true then true else (!y2))))), (20, (.ite (true && ((!y1) == false)) (.d (.b (!y2))))), (19, (.ite (true && ((!y1) == false)) (.d (.b y2)))), (18, (.ite (true && ((!y1) == false)) (vGValue p1))), (17, (.d (.b (!y1)))), (16, (.d (.b (!y1)))), (15, (.d (.b y1))), (14, (.d (.i .i64 p0))), (7, (.d (.i .i64 0))), (6, (.ptr 6 0)), (5, (.ptr 5 0)), (4, (.ptr 4 0)), (0, (.d (.i .i64 p0))), (1, (vGValue p1)), (2, (vGValue p2))], [(6, [(.d (.i .i64 0)), (.d (.i .i64 0)), (.d (.s (bs [])))]), (5, [(.d (.i .i64 p2.kind)), (.d (.i .i64 p2.num)), (.d (.s (bs p2.text)))]), (4, [(.d (.i .i64 p1.kind)), (.d (.i .i64 p1.num)), (.d (.s (bs p1.text)))])]⟩) (by kernel_rfl) ?_
          refine nil_in ?_
          refine next_in ?_
          refine cond_step h (by kernel_rfl) ?_ ?_
          · clear h; intro h
            refine seq_in ?_
            refine seq_in ?_
            refine ops_in ?_
            refine sts_ok 8 (s' := ⟨[(59, (.d (.b (decide (200 < (IntKind.wrap .i64 ((p1.text.length : Int) + (p2.text.length : Int)))))))), (58, (.d (.i .i64 (IntKind.wrap .i64 ((p1.text.length : Int) + (p2.text.length : Int)))))), (57, (.d (.i .i64 (p2.text.length : Int)))), (56, (.d (.s (bs p2.text)))), (55, (.ptr 5 2)), (54, (.d (.i .i64 (p1.text.length : Int)))), (53, (.d (.s (bs p1.text)))), (52, (.ptr 4 2)), (50, (.d (.b (decide (p0 = 9))))), (51, (.d (.b (decide (p0 = 9))))), (49, (.d (.i .i64 p0))), (47, (.d (.b (if y6 = true then true else y7)))), (46, (.ite (true && (y6 == false)) (.d (.b y7)))), (45, (.ite (true && (y6 == false)) (vGValue p2))), (44, (.d (.b y6))), (43, (.d (.b y6))), (42, (vGValue p1)), (40, (.d (.b (!y5)))), (39, (.d (.b y5))), (38, (vGValue p2)), (37, (vGValue p1)), (36, (.d (.i .i64 p0))), (29, (.d (.b (decide (p0 ≤ 2))))), (28, (.d (.i .i64 p0))), (26, (.d (.b (if (if (!y1) = true then true else (!y2)) = true then true else (!y3))))), (25, (.ite (true && ((if (!y1) = true then true else (!y2)) == false)) (.d (.b (!y3))))), (24, (.ite (true && ((if (!y1) = true then true else (!y2)) == false)) (.d (.b y3)))), (23, (.ite (true && ((if (!y1) = true then true else (!y2)) == false)) (vGValue p2))), (22, (.d (.b (if (!y1) = true then true else (!y2))))), (21, (.d (.b (if (!y1) = true then true else (!y2))))), (20, (.ite (true && ((!y1) == false)) (.d (.b (!y2))))), (19, (.ite (true && ((!y1) == false)) (.d (.b y2)))), (18, (.ite (true && ((!y1) == false)) (vGValue p1))), (17, (.d (.b (!y1)))), (16, (.d (.b (!y1)))), (15, (.d (.b y1))), (14, (.d (.i .i64 p0))), (7, (.d (.i .i64 0))), (6, (.ptr 6 0)), (5, (.ptr 5 0)), (4, (.ptr 4 0)), (0, (.d (.i .i64 p0))), (1, (vGValue p1)), (2, (vGValue p2))], [(6, [(.d (.i .i64 0)), (.d (.i .i64 0)), (.d (.s (bs [])))]), (5, [(.d (.i .i64 p2.kind)), (.d (.i .i64 p2.num)), (.d (.s (bs p2.text)))]), (4, [(.d (.i .i64 p1.kind)), (.d (.i .i64 p1.num)), (.d (.s (bs p1.text)))])]⟩) (by kernel_rfl) ?_
            refine nil_in ?_
            refine next_in ?_
            refine cond_step h (by kernel_rfl) ?_ ?_
            · clear h; intro h
              refine seq_in ?_
              refine ops_in ?_
              refine sts_ok 3 (s' := ⟨[(7, (.d (.i .i64 2))), (60, (vGValue (GValue.mk 0 0 []))), (59, (.d (.b (decide (200 < (IntKind.wrap .i64 ((p1.text.length : Int) + (p2.text.length : Int)))))))), (58, (.d (.i .i64 (IntKind.wrap .i64 ((p1.text.length : Int) + (p2.text.length : Int)))))), (57, (.d (.i .i64 (p2.text.length : Int)))), (56, (.d (.s (bs p2.text)))), (55, (.ptr 5 2)), (54, (.d (.i .i64 (p1.text.length : Int)))), (53, (.d (.s (bs p1.text)))), (52, (.ptr 4 2)), (50, (.d (.b (decide (p0 = 9))))), (51, (.d (.b (decide (p0 = 9))))), (49, (.d (.i .i64 p0))), (47, (.d (.b (if y6 = true then true else y7)))), (46, (.ite (true && (y6 == false)) (.d (.b y7)))), (45, (.ite (true && (y6 == false)) (vGValue p2))), (44, (.d (.b y6))), (43, (.d (.b y6))), (42, (vGValue p1)), (40, (.d (.b (!y5)))), (39, (.d (.b y5))), (38, (vGValue p2)), (37, (vGValue p1)), (36, (.d (.i .i64 p0))), (29, (.d (.b (decide (p0 ≤ 2))))), (28, (.d (.i .i64 p0))), (26, (.d (.b (if (if (!y1) = true then true else (!y2)) = true then true else (!y3))))), (25, (.ite (true && ((if (!y1) = true then true else (!y2)) == false)) (.d (.b (!y3))))), (24, (.ite (true && ((if (!y1) = true then true else (!y2)) == false)) (.d (.b y3)))), (23, (.ite (true && ((if (!y1) = true then true else (!y2)) == false)) (vGValue p2))), (22, (.d (.b (if (!y1) = true then true else (!y2))))), (21, (.d (.b (if (!y1) = true then true else (!y2))))), (20, (.ite (true && ((!y1) == false)) (.d (.b (!y2))))), (19, (.ite (true && ((!y1) == false)) (.d (.b y2)))), (18, (.ite (true && ((!y1) == false)) (vGValue p1))), (17, (.d (.b (!y1)))), (16, (.d (.b (!y1)))), (15, (.d (.b y1))), (14, (.d (.i .i64 p0))), (7, (.d (.i .i64 0))), (6, (.ptr 6 0)), (5, (.ptr 5 0)), (4, (.ptr 4 0)), (0, (.d (.i .i64 p0))), (1, (vGValue p1)), (2, (vGValue p2))], [(6, [(.d (.i .i64 0)), (.d (.i .i64 0)), (.d (.s (bs [])))]), (5, [(.d (.i .i64 p2.kind)), (.d (.i .i64 p2.num)), (.d (.s (bs p2.text)))]), (4, [(.d (.i .i64 p1.kind)), (.d (.i .i64 p1.num)), (.d (.s (bs p1.text)))])]⟩) (by kernel_rfl) ?_
              refine nil_in ?_
              refine next_in ?_
              refine ret_in ?_
              refine thenK_ret ?_
              refine blockK_ret ?_
              refine thenK_ret ?_
              have h := Option.some.inj h; subst h
              exact retn_step (vs := [(vGValue (GValue.mk 0 0 [])), (.d (.i .i64 2))]) (by kernel_rfl) (by kernel_rfl)
            · clear h; intro h
              refine skip_in ?_
              refine next_in ?_
              refine seq_in ?_
              refine ops_in ?_
              refine sts_ok 4 (s' := ⟨[(64, (.d (.s (bs p2.text)))), (63, (.ptr 5 2)), (62, (.d (.s (bs p1.text)))), (61, (.ptr 4 2)), (59, (.d (.b (decide (200 < (IntKind.wrap .i64 ((p1.text.length : Int) + (p2.text.length : Int)))))))), (58, (.d (.i .i64 (IntKind.wrap .i64 ((p1.text.length : Int) + (p2.text.length : Int)))))), (57, (.d (.i .i64 (p2.text.length : Int)))), (56, (.d (.s (bs p2.text)))), (55, (.ptr 5 2)), (54, (.d (.i .i64 (p1.text.length : Int)))), (53, (.d (.s (bs p1.text)))), (52, (.ptr 4 2)), (50, (.d (.b (decide (p0 = 9))))), (51, (.d (.b (decide (p0 = 9))))), (49, (.d (.i .i64 p0))), (47, (.d (.b (if y6 = true then true else y7)))), (46, (.ite (true && (y6 == false)) (.d (.b y7)))), (45, (.ite (true && (y6 == false)) (vGValue p2))), (44, (.d (.b y6))), (43, (.d (.b y6))), (42, (vGValue p1)), (40, (.d (.b (!y5)))), (39, (.d (.b y5))), (38, (vGValue p2)), (37, (vGValue p1)), (36, (.d (.i .i64 p0))), (29, (.d (.b (decide (p0 ≤ 2))))), (28, (.d (.i .i64 p0))), (26, (.d (.b (if (if (!y1) = true then true else (!y2)) = true then true else (!y3))))), (25, (.ite (true && ((if (!y1) = true then true else (!y2)) == false)) (.d (.b (!y3))))), (24, (.ite (true && ((if (!y1) = true then true else (!y2)) == false)) (.d (.b y3)))), (23, (.ite (true && ((if (!y1) = true then true else (!y2)) == false)) (vGValue p2))), (22, (.d (.b (if (!y1) = true then true else (!y2))))), (21, (.d (.b (if (!y1) = true then true else (!y2))))), (20, (.ite (true && ((!y1) == false)) (.d (.b (!y2))))), (19, (.ite (true && ((!y1) == false)) (.d (.b y2)))), (18, (.ite (true && ((!y1) == false)) (vGValue p1))), (17, (.d (.b (!y1)))), (16, (.d (.b (!y1)))), (15, (.d (.b y1))), (14, (.d (.i .i64 p0))), (7, (.d (.i .i64 0))), (6, (.ptr 6 0)), (5, (.ptr 5 0)), (4, (.ptr 4 0)), (0, (.d (.i .i64 p0))), (1, (vGValue p1)), (2, (vGValue p2))], [(6, [(.d (.i .i64 0)), (.d (.i .i64 0)), (.d (.s (bs [])))]), (5, [(.d (.i .i64 p2.kind)), (.d (.i .i64 p2.num)), (.d (.s (bs p2.text)))]), (4, [(.d (.i .i64 p1.kind)), (.d (.i .i64 p1.num)), (.d (.s (bs p1.text)))])]⟩) (by kernel_rfl) ?_
              refine v_step (m := catS p1.text p2.text) (v' := fun y => (.d (.s (bs y)))) h rfl rfl (fun y hy => vop_cat (a := p1.text) (b := p2.text) hy (by kernel_rfl) (by kernel_rfl) (by kernel_rfl)) ?_
              clear h; intro y8 h
              refine call_step (m := sTextValue y8) (args := [(.d (.s (bs y8)))]) (v' := (fun y => (vGValue y))) h (OK_sTextValue y8) (by kernel_rfl) (by kernel_rfl) (fun _ => rfl) ?_
              clear h; intro y9 h
              refine sts_ok 2 (s' := ⟨[(7, (.d (.i .i64 0))), (66, (vGValue y9)), (65, (.d (.s (bs y8)))), (64, (.d (.s (bs p2.text)))), (63, (.ptr 5 2)), (62, (.d (.s (bs p1.text)))), (61, (.ptr 4 2)), (59, (.d (.b (decide (200 < (IntKind.wrap .i64 ((p1.text.length : Int) + (p2.text.length : Int)))))))), (58, (.d (.i .i64 (IntKind.wrap .i64 ((p1.text.length : Int) + (p2.text.length : Int)))))), (57, (.d (.i .i64 (p2.text.length : Int)))), (56, (.d (.s (bs p2.text)))), (55, (.ptr 5 2)), (54, (.d (.i .i64 (p1.text.length : Int)))), (53, (.d (.s (bs p1.text)))), (52, (.ptr 4 2)), (50, (.d (.b (decide (p0 = 9))))), (51, (.d (.b (decide (p0 = 9))))), (49, (.d (.i .i64 p0))), (47, (.d (.b (if y6 = true then true else y7)))), (46, (.ite (true && (y6 == false)) (.d (.b y7)))), (45, (.ite (true && (y6 == false)) (vGValue p2))), (44, (.d (.b y6))), (43, (.d (.b y6))), (42, (vGValue p1)), (40, (.d (.b (!y5)))), (39, (.d (.b y5))), (38, (vGValue p2)), (37, (vGValue p1)), (36, (.d (.i .i64 p0))), (29, (.d (.b (decide (p0 ≤ 2))))), (28, (.d (.i .i64 p0))), (26, (.d (.b (if (if (!y1) = true then true else (!y2)) = true then true else (!y3))))), (25, (.ite (true && ((if (!y1) = true then true else (!y2)) == false)) (.d (.b (!y3))))), (24, (.ite (true && ((if (!y1) = true then true else (!y2)) == false)) (.d (.b y3)))), (23, (.ite (true && ((if (!y1) = true then true else (!y2)) == false)) (vGValue p2))), (22, (.d (.b (if (!y1) = true then true else (!y2))))), (21, (.d (.b (if (!y1) = true then true else (!y2))))), (20, (.ite (true && ((!y1) == false)) (.d (.b (!y2))))), (19, (.ite (true && ((!y1) == false)) (.d (.b y2)))), (18, (.ite (true && ((!y1) == false)) (vGValue p1))), (17, (.d (.b (!y1)))), (16, (.d (.b (!y1)))), (15, (.d (.b y1))), (14, (.d (.i .i64 p0))), (7, (.d (.i .i64 0))), (6, (.ptr 6 0)), (5, (.ptr 5 0)), (4, (.ptr 4 0)), (0, (.d (.i .i64 p0))), (1, (vGValue p1)), (2, (vGValue p2))], [(6, [(.d (.i .i64 y9.kind)), (.d (.i .i64 y9.num)), (.d (.s (bs y9.text)))]), (5, [(.d (.i .i64 p2.kind)), (.d (.i .i64 p2.num)), (.d (.s (bs p2.text)))]), (4, [(.d (.i .i64 p1.kind)), (.d (.i .i64 p1.num)), (.d (.s (bs p1.text)))])]⟩) (by kernel_rfl) ?_
              refine nil_in ?_
              refine next_in ?_
              refine ret_in ?_
              refine blockK_ret ?_
              refine thenK_ret ?_
              have h := Option.some.inj h; subst h
              exact retn_step (vs := [(vGValue y9), (.d (.i .i64 0))]) (by kernel_rfl) (by kernel_rfl)
          · clear h; intro h
            refine seq_in ?_
            refine ops_in ?_
            refine sts_ok 2 (s' := ⟨[(67, (.d (.b (decide (p0 = 10))))), (68, (.d (.b (decide (p0 = 10))))), (50, (.d (.b (decide (p0 = 9))))), (51, (.d (.b (decide (p0 = 9))))), (49, (.d (.i .i64 p0))), (47, (.d (.b (if y6 = true then true else y7)))), (46, (.ite (true && (y6 == false)) (.d (.b y7)))), (45, (.ite (true && (y6 == false)) (vGValue p2))), (44, (.d (.b y6))), (43, (.d (.b y6))), (42, (vGValue p1)), (40, (.d (.b (!y5)))), (39, (.d (.b y5))), (38, (vGValue p2)), (37, (vGValue p1)), (36, (.d (.i .i64 p0))), (29, (.d (.b (decide (p0 ≤ 2))))), (28, (.d (.i .i64 p0))), (26, (.d (.b (if (if (!y1) = true then true else (!y2)) = true then true else (!y3))))), (25, (.ite (true && ((if (!y1) = true then true else (!y2)) == false)) (.d (.b (!y3))))), (24, (.ite (true && ((if (!y1) = true then true else (!y2)) == false)) (.d (.b y3)))), (23, (.ite (true && ((if (!y1) = true then true else (!y2)) == false)) (vGValue p2))), (22, (.d (.b (if (!y1) = true then true else (!y2))))), (21, (.d (.b (if (!y1) = true then true else (!y2))))), (20, (.ite (true && ((!y1) == false)) (.d (.b (!y2))))), (19, (.ite (true && ((!y1) == false)) (.d (.b y2)))), (18, (.ite (true && ((!y1) == false)) (vGValue p1))), (17, (.d (.b (!y1)))), (16, (.d (.b (!y1)))), (15, (.d (.b y1))), (14, (.d (.i .i64 p0))), (7, (.d (.i .i64 0))), (6, (.ptr 6 0)), (5, (.ptr 5 0)), (4, (.ptr 4 0)), (0, (.d (.i .i64 p0))), (1, (vGValue p1)), (2, (vGValue p2))], [(6, [(.d (.i .i64 0)), (.d (.i .i64 0)), (.d (.s (bs [])))]), (5, [(.d (.i .i64 p2.kind)), (.d (.i .i64 p2.num)), (.d (.s (bs p2.text)))]), (4, [(.d (.i .i64 p1.kind)), (.d (.i .i64 p1.num)), (.d (.s (bs p1.text)))])]⟩) (by kernel_rfl) ?_
            refine nil_in ?_
            refine next_in ?_
            refine cond_step h (by kernel_rfl) ?_ ?_
            · clear h; intro h
              refine seq_in ?_
              refine ops_in ?_
              refine sts_ok 4 (s' := ⟨[(73, (.d (.i .i64 p2.num))), (72, (.ptr 5 1)), (71, (.d (.i .i64 p1.num))), (70, (.ptr 4 1)), (67, (.d (.b (decide (p0 = 10))))), (68, (.d (.b (decide (p0 = 10))))), (50, (.d (.b (decide (p0 = 9))))), (51, (.d (.b (decide (p0 = 9))))), (49, (.d (.i .i64 p0))), (47, (.d (.b (if y6 = true then true else y7)))), (46, (.ite (true && (y6 == false)) (.d (.b y7)))), (45, (.ite (true && (y6 == false)) (vGValue p2))), (44, (.d (.b y6))), (43, (.d (.b y6))), (42, (vGValue p1)), (40, (.d (.b (!y5)))), (39, (.d (.b y5))), (38, (vGValue p2)), (37, (vGValue p1)), (36, (.d (.i .i64 p0))), (29, (.d (.b (decide (p0 ≤ 2))))), (28, (.d (.i .i64 p0))), (26, (.d (.b (if (if (!y1) = true then true else (!y2)) = true then true else (!y3))))), (25, (.ite (true && ((if (!y1) = true then true else (!y2)) == false)) (.d (.b (!y3))))), (24, (.ite (true && ((if (!y1) = true then true else (!y2)) == false)) (.d (.b y3)))), (23, (.ite (true && ((if (!y1) = true then true else (!y2)) == false)) (vGValue p2))), (22, (.d (.b (if (!y1) = true then true else (!y2))))), (21, (.d (.b (if (!y1) = true then true else (!y2))))), (20, (.ite (true && ((!y1) == false)) (.d (.b (!y2))))), (19, (.ite (true && ((!y1) == false)) (.d (.b y2)))), (18, (.ite (true && ((!y1) == false)) (vGValue p1))), (17, (.d (.b (!y1)))), (16, (.d (.b (!y1)))), (15, (.d (.b y1))), (14, (.d (.i .i64 p0))), (7, (.d (.i .i64 0))), (6, (.ptr 6 0)), (5, (.ptr 5 0)), (4, (.ptr 4 0)), (0, (.d (.i .i64 p0))), (1, (vGValue p1)), (2, (vGValue p2))], [(6, [(.d (.i .i64 0)), (.d (.i .i64 0)), (.d (.s (bs [])))]), (5, [(.d (.i .i64 p2.kind)), (.d (.i .i64 p2.num)), (.d (.s (bs p2.text)))]), (4, [(.d (.i .i64 p1.kind)), (.d (.i .i64 p1.num)), (.d (.s (bs p1.text)))])]⟩) (by kernel_rfl) ?_
              refine call_step (m := sAddNum p1.num p2.num) (args := [(.d (.i .i64 p1.num)), (.d (.i .i64 p2.num))]) (v' := (fun y => (.tup [(.d (.i .i64 y.1)), (.d (.b y.2))]))) h (OK_sAddNum p1.num p2.num) (by kernel_rfl) (by kernel_rfl) (fun _ => rfl) ?_
              clear h; intro y10 h
              refine sts_ok 5 (s' := ⟨[(9, (.d (.b y10.2))), (8, (.d (.i .i64 y10.1))), (76, (.d (.b y10.2))), (75, (.d (.i .i64 y10.1))), (69, (.tup [(.d (.i .i64 y10.1)), (.d (.b y10.2))])), (74, (.tup [(.d (.i .i64 y10.1)), (.d (.b y10.2))])), (73, (.d (.i .i64 p2.num))), (72, (.ptr 5 1)), (71, (.d (.i .i64 p1.num))), (70, (.ptr 4 1)), (67, (.d (.b (decide (p0 = 10))))), (68, (.d (.b (decide (p0 = 10))))), (50, (.d (.b (decide (p0 = 9))))), (51, (.d (.b (decide (p0 = 9))))), (49, (.d (.i .i64 p0))), (47, (.d (.b (if y6 = true then true else y7)))), (46, (.ite (true && (y6 == false)) (.d (.b y7)))), (45, (.ite (true && (y6 == false)) (vGValue p2))), (44, (.d (.b y6))), (43, (.d (.b y6))), (42, (vGValue p1)), (40, (.d (.b (!y5)))), (39, (.d (.b y5))), (38, (vGValue p2)), (37, (vGValue p1)), (36, (.d (.i .i64 p0))), (29, (.d (.b (decide (p0 ≤ 2))))), (28, (.d (.i .i64 p0))), (26, (.d (.b (if (if (!y1) = true then true else (!y2)) = true then true else (!y3))))), (25, (.ite (true && ((if (!y1) = true then true else (!y2)) == false)) (.d (.b (!y3))))), (24, (.ite (true && ((if (!y1) = true then true else (!y2)) == false)) (.d (.b y3)))), (23, (.ite (true && ((if (!y1) = true then true else (!y2)) == false)) (vGValue p2))), (22, (.d (.b (if (!y1) = true then true else (!y2))))), (21, (.d (.b (if (!y1) = true then true else (!y2))))), (20, (.ite (true && ((!y1) == false)) (.d (.b (!y2))))), (19, (.ite (true && ((!y1) == false)) (.d (.b y2)))), (18, (.ite (true && ((!y1) == false)) (vGValue p1))), (17, (.d (.b (!y1)))), (16, (.d (.b (!y1)))), (15, (.d (.b y1))), (14, (.d (.i .i64 p0))), (7, (.d (.i .i64 0))), (6, (.ptr 6 0)), (5, (.ptr 5 0)), (4, (.ptr 4 0)), (0, (.d (.i .i64 p0))), (1, (vGValue p1)), (2, (vGValue p2))], [(6, [(.d (.i .i64 0)), (.d (.i .i64 0)), (.d (.s (bs [])))]), (5, [(.d (.i .i64 p2.kind)), (.d (.i .i64 p2.num)), (.d (.s (bs p2.text)))]), (4, [(.d (.i .i64 p1.kind)), (.d (.i .i64 p1.num)), (.d (.s (bs p1.text)))])]⟩) (by kernel_rfl) ?_
              refine nil_in ?_
              refine next_in ?_
              refine seq_in ?_
              refine ops_in ?_
              refine sts_ok 2 (s' := ⟨[(78, (.d (.b y10.2))), (77, (.d (.i .i64 y10.1))), (9, (.d (.b y10.2))), (8, (.d (.i .i64 y10.1))), (76, (.d (.b y10.2))), (75, (.d (.i .i64 y10.1))), (69, (.tup [(.d (.i .i64 y10.1)), (.d (.b y10.2))])), (74, (.tup [(.d (.i .i64 y10.1)), (.d (.b y10.2))])), (73, (.d (.i .i64 p2.num))), (72, (.ptr 5 1)), (71, (.d (.i .i64 p1.num))), (70, (.ptr 4 1)), (67, (.d (.b (decide (p0 = 10))))), (68, (.d (.b (decide (p0 = 10))))), (50, (.d (.b (decide (p0 = 9))))), (51, (.d (.b (decide (p0 = 9))))), (49, (.d (.i .i64 p0))), (47, (.d (.b (if y6 = true then true else y7)))), (46, (.ite (true && (y6 == false)) (.d (.b y7)))), (45, (.ite (true && (y6 == false)) (vGValue p2))), (44, (.d (.b y6))), (43, (.d (.b y6))), (42, (vGValue p1)), (40, (.d (.b (!y5)))), (39, (.d (.b y5))), (38, (vGValue p2)), (37, (vGValue p1)), (36, (.d (.i .i64 p0))), (29, (.d (.b (decide (p0 ≤ 2))))), (28, (.d (.i .i64 p0))), (26, (.d (.b (if (if (!y1) = true then true else (!y2)) = true then true else (!y3))))), (25, (.ite (true && ((if (!y1) = true then true else (!y2)) == false)) (.d (.b (!y3))))), (24, (.ite (true && ((if (!y1) = true then true else (!y2)) == false)) (.d (.b y3)))), (23, (.ite (true && ((if (!y1) = true then true else (!y2)) == false)) (vGValue p2))), (22, (.d (.b (if (!y1) = true then true else (!y2))))), (21, (.d (.b (if (!y1) = true then true else (!y2))))), (20, (.ite (true && ((!y1) == false)) (.d (.b (!y2))))), (19, (.ite (true && ((!y1) == false)) (.d (.b y2)))), (18, (.ite (true && ((!y1) == false)) (vGValue p1))), (17, (.d (.b (!y1)))), (16, (.d (.b (!y1)))), (15, (.d (.b y1))), (14, (.d (.i .i64 p0))), (7, (.d (.i .i64 0))), (6, (.ptr 6 0)), (5, (.ptr 5 0)), (4, (.ptr 4 0)), (0, (.d (.i .i64 p0))), (1, (vGValue p1)), (2, (vGValue p2))], [(6, [(.d (.i .i64 0)), (.d (.i .i64 0)), (.d (.s (bs [])))]), (5, [(.d (.i .i64 p2.kind)), (.d (.i .i64 p2.num)), (.d (.s (bs p2.text)))]), (4, [(.d (.i .i64 p1.kind)), (.d (.i .i64 p1.num)), (.d (.s (bs p1.text)))])]⟩) (by kernel_rfl) ?_
              refine call_step (m := sL6Num y10.1 y10.2) (args := [(.d (.i .i64 y10.1)), (.d (.b y10.2))]) (v' := (fun y => (.tup [(vGValue y.1), (.d (.i .i64 y.2))]))) h (OK_sL6Num y10.1 y10.2) (by kernel_rfl) (by kernel_rfl) (fun _ => rfl) ?_
              clear h; intro y11 h
              refine sts_ok 4 (s' := ⟨[(7, (.d (.i .i64 y11.2))), (81, (.d (.i .i64 y11.2))), (80, (vGValue y11.1)), (79, (.tup [(vGValue y11.1), (.d (.i .i64 y11.2))])), (78, (.d (.b y10.2))), (77, (.d (.i .i64 y10.1))), (9, (.d (.b y10.2))), (8, (.d (.i .i64 y10.1))), (76, (.d (.b y10.2))), (75, (.d (.i .i64 y10.1))), (69, (.tup [(.d (.i .i64 y10.1)), (.d (.b y10.2))])), (74, (.tup [(.d (.i .i64 y10.1)), (.d (.b y10.2))])), (73, (.d (.i .i64 p2.num))), (72, (.ptr 5 1)), (71, (.d (.i .i64 p1.num))), (70, (.ptr 4 1)), (67, (.d (.b (decide (p0 = 10))))), (68, (.d (.b (decide (p0 = 10))))), (50, (.d (.b (decide (p0 = 9))))), (51, (.d (.b (decide (p0 = 9))))), (49, (.d (.i .i64 p0))), (47, (.d (.b (if y6 = true then true else y7)))), (46, (.ite (true && (y6 == false)) (.d (.b y7)))), (45, (.ite (true && (y6 == false)) (vGValue p2))), (44, (.d (.b y6))), (43, (.d (.b y6))), (42, (vGValue p1)), (40, (.d (.b (!y5)))), (39, (.d (.b y5))), (38, (vGValue p2)), (37, (vGValue p1)), (36, (.d (.i .i64 p0))), (29, (.d (.b (decide (p0 ≤ 2))))), (28, (.d (.i .i64 p0))), (26, (.d (.b (if (if (!y1) = true then true else (!y2)) = true then true else (!y3))))), (25, (.ite (true && ((if (!y1) = true then true else (!y2)) == false)) (.d (.b (!y3))))), (24, (.ite (true && ((if (!y1) = true then true else (!y2)) == false)) (.d (.b y3)))), (23, (.ite (true && ((if (!y1) = true then true else (!y2)) == false)) (vGValue p2))), (22, (.d (.b (if (!y1) = true then true else (!y2))))), (21, (.d (.b (if (!y1) = true then true else (!y2))))), (20, (.ite (true && ((!y1) == false)) (.d (.b (!y2))))), (19, (.ite (true && ((!y1) == false)) (.d (.b y2)))), (18, (.ite (true && ((!y1) == false)) (vGValue p1))), (17, (.d (.b (!y1)))), (16, (.d (.b (!y1)))), (15, (.d (.b y1))), (14, (.d (.i .i64 p0))), (7, (.d (.i .i64 0))), (6, (.ptr 6 0)), (5, (.ptr 5 0)), (4, (.ptr 4 0)), (0, (.d (.i .i64 p0))), (1, (vGValue p1)), (2, (vGValue p2))], [(6, [(.d (.i .i64 y11.1.kind)), (.d (.i .i64 y11.1.num)), (.d (.s (bs y11.1.text)))]), (5, [(.d (.i .i64 p2.kind)), (.d (.i .i64 p2.num)), (.d (.s (bs p2.text)))]), (4, [(.d (.i .i64 p1.kind)), (.d (.i .i64 p1.num)), (.d (.s (bs p1.text)))])]⟩) (by kernel_rfl) ?_
              refine nil_in ?_
              refine next_in ?_
              refine ret_in ?_
              refine blockK_ret ?_
              refine thenK_ret ?_
              have h := Option.some.inj h; subst h
              exact retn_step (vs := [(vGValue y11.1), (.d (.i .i64 y11.2))]) (by kernel_rfl) (by kernel_rfl)
            · clear h; intro h
              refine seq_in ?_
              refine ops_in ?_
              refine sts_ok 2 (s' := ⟨[(82, (.d (.b (decide (p0 = 11))))), (83, (.d (.b (decide (p0 = 11))))), (67, (.d (.b (decide (p0 = 10))))), (68, (.d (.b (decide (p0 = 10))))), (50, (.d (.b (decide (p0 = 9))))), (51, (.d (.b (decide (p0 = 9))))), (49, (.d (.i .i64 p0))), (47, (.d (.b (if y6 = true then true else y7)))), (46, (.ite (true && (y6 == false)) (.d (.b y7)))), (45, (.ite (true && (y6 == false)) (vGValue p2))), (44, (.d (.b y6))), (43, (.d (.b y6))), (42, (vGValue p1)), (40, (.d (.b (!y5)))), (39, (.d (.b y5))), (38, (vGValue p2)), (37, (vGValue p1)), (36, (.d (.i .i64 p0))), (29, (.d (.b (decide (p0 ≤ 2))))), (28, (.d (.i .i64 p0))), (26, (.d (.b (if (if (!y1) = true then true else (!y2)) = true then true else (!y3))))), (25, (.ite (true && ((if (!y1) = true then true else (!y2)) == false)) (.d (.b (!y3))))), (24, (.ite (true && ((if (!y1) = true then true else (!y2)) == false)) (.d (.b y3)))), (23, (.ite (true && ((if (!y1) = true then true else (!y2)) == false)) (vGValue p2))), (22, (.d (.b (if (!y1) = true then true else (!y2))))), (21, (.d (.b (if (!y1) = true then true else (!y2))))), (20, (.ite (true && ((!y1) == false)) (.d (.b (!y2))))), (19, (.ite (true && ((!y1) == false)) (.d (.b y2)))), (18, (.ite (true && ((!y1) == false)) (vGValue p1))), (17, (.d (.b (!y1)))), (16, (.d (.b (!y1)))), (15, (.d (.b y1))), (14, (.d (.i .i64 p0))), (7, (.d (.i .i64 0))), (6, (.ptr 6 0)), (5, (.ptr 5 0)), (4, (.ptr 4 0)), (0, (.d (.i .i64 p0))), (1, (vGValue p1)), (2, (vGValue p2))], [(6, [(.d (.i .i64 0)), (.d (.i .i64 0)), (.d (.s (bs [])))]), (5, [(.d (.i .i64 p2.kind)), (.d (.i .i64 p2.num)), (.d (.s (bs p2.text)))]), (4, [(.d (.i .i64 p1.kind)), (.d (.i .i64 p1.num)), (.d (.s (bs p1.text)))])]⟩) (by kernel_rfl) ?_
              refine nil_in ?_
              refine next_in ?_
              refine cond_step h (by kernel_rfl) ?_ ?_
              · clear h; intro h
                refine seq_in ?_
                refine ops_in ?_
                refine sts_ok 4 (s' := ⟨[(88, (.d (.i .i64 p2.num))), (87, (.ptr 5 1)), (86, (.d (.i .i64 p1.num))), (85, (.ptr 4 1)), (82, (.d (.b (decide (p0 = 11))))), (83, (.d (.b (decide (p0 = 11))))), (67, (.d (.b (decide (p0 = 10))))), (68, (.d (.b (decide (p0 = 10))))), (50, (.d (.b (decide (p0 = 9))))), (51, (.d (.b (decide (p0 = 9))))), (49, (.d (.i .i64 p0))), (47, (.d (.b (if y6 = true then true else y7)))), (46, (.ite (true && (y6 == false)) (.d (.b y7)))), (45, (.ite (true && (y6 == false)) (vGValue p2))), (44, (.d (.b y6))), (43, (.d (.b y6))), (42, (vGValue p1)), (40, (.d (.b (!y5)))), (39, (.d (.b y5))), (38, (vGValue p2)), (37, (vGValue p1)), (36, (.d (.i .i64 p0))), (29, (.d (.b (decide (p0 ≤ 2))))), (28, (.d (.i .i64 p0))), (26, (.d (.b (if (if (!y1) = true then true else (!y2)) = true then true else (!y3))))), (25, (.ite (true && ((if (!y1) = true then true else (!y2)) == false)) (.d (.b (!y3))))), (24, (.ite (true && ((if (!y1) = true then true else (!y2)) == false)) (.d (.b y3)))), (23, (.ite (true && ((if (!y1) = true then true else (!y2)) == false)) (vGValue p2))), (22, (.d (.b (if (!y1) = true then true else (!y2))))), (21, (.d (.b (if (!y1) = true then true else (!y2))))), (20, (.ite (true && ((!y1) == false)) (.d (.b (!y2))))), (19, (.ite (true && ((!y1) == false)) (.d (.b y2)))), (18, (.ite (true && ((!y1) == false)) (vGValue p1))), (17, (.d (.b (!y1)))), (16, (.d (.b (!y1)))), (15, (.d (.b y1))), (14, (.d (.i .i64 p0))), (7, (.d (.i .i64 0))), (6, (.ptr 6 0)), (5, (.ptr 5 0)), (4, (.ptr 4 0)), (0, (.d (.i .i64 p0))), (1, (vGValue p1)), (2, (vGValue p2))], [(6, [(.d (.i .i64 0)), (.d (.i .i64 0)), (.d (.s (bs [])))]), (5, [(.d (.i .i64 p2.kind)), (.d (.i .i64 p2.num)), (.d (.s (bs p2.text)))]), (4, [(.d (.i .i64 p1.kind)), (.d (.i .i64 p1.num)), (.d (.s (bs p1.text)))])]⟩) (by kernel_rfl) ?_
                refine call_step (m := sSubNum p1.num p2.num) (args := [(.d (.i .i64 p1.num)), (.d (.i .i64 p2.num))]) (v' := (fun y => (.tup [(.d (.i .i64 y.1)), (.d (.b y.2))]))) h (OK_sSubNum p1.num p2.num) (by kernel_rfl) (by kernel_rfl) (fun _ => rfl) ?_
                clear h; intro y12 h
                refine sts_ok 5 (s' := ⟨[(11, (.d (.b y12.2))), (10, (.d (.i .i64 y12.1))), (91, (.d (.b y12.2))), (90, (.d (.i .i64 y12.1))), (84, (.tup [(.d (.i .i64 y12.1)), (.d (.b y12.2))])), (89, (.tup [(.d (.i .i64 y12.1)), (.d (.b y12.2))])), (88, (.d (.i .i64 p2.num))), (87, (.ptr 5 1)), (86, (.d (.i .i64 p1.num))), (85, (.ptr 4 1)), (82, (.d (.b (decide (p0 = 11))))), (83, (.d (.b (decide (p0 = 11))))), (67, (.d (.b (decide (p0 = 10))))), (68, (.d (.b (decide (p0 = 10))))), (50, (.d (.b (decide (p0 = 9))))), (51, (.d (.b (decide (p0 = 9))))), (49, (.d (.i .i64 p0))), (47, (.d (.b (if y6 = true then true else y7)))), (46, (.ite (true && (y6 == false)) (.d (.b y7)))), (45, (.ite (true && (y6 == false)) (vGValue p2))), (44, (.d (.b y6))), (43, (.d (.b y6))), (42, (vGValue p1)), (40, (.d (.b (!y5)))), (39, (.d (.b y5))), (38, (vGValue p2)), (37, (vGValue p1)), (36, (.d (.i .i64 p0))), (29, (.d (.b (decide (p0 ≤ 2))))), (28, (.d (.i .i64 p0))), (26, (.d (.b (if (if (!y1) = true then true else (!y2)) = true then true else (!y3))))), (25, (.ite (true && ((if (!y1) = true then true else (!y2)) == false)) (.d (.b (!y3))))), (24, (.ite (true && ((if (!y1) = true then true else (!y2)) == false)) (.d (.b y3)))), (23, (.ite (true && ((if (!y1) = true then true else (!y2)) == false)) (vGValue p2))), (22, (.d (.b (if (!y1) = true then true else (!y2))))), (21, (.d (.b (if (!y1) = true then true else (!y2))))), (20, (.ite (true && ((!y1) == false)) (.d (.b (!y2))))), (19, (.ite (true && ((!y1) == false)) (.d (.b y2)))), (18, (.ite (true && ((!y1) == false)) (vGValue p1))), (17, (.d (.b (!y1)))), (16, (.d (.b (!y1)))), (15, (.d (.b y1))), (14, (.d (.i .i64 p0))), (7, (.d (.i .i64 0))), (6, (.ptr 6 0)), (5, (.ptr 5 0)), (4, (.ptr 4 0)), (0, (.d (.i .i64 p0))), (1, (vGValue p1)), (2, (vGValue p2))], [(6, [(.d (.i .i64 0)), (.d (.i .i64 0)), (.d (.s (bs [])))]), (5, [(.d (.i .i64 p2.kind)), (.d (.i .i64 p2.num)), (.d (.s (bs p2.text)))]), (4, [(.d (.i .i64 p1.kind)), (.d (.i .i64 p1.num)), (.d (.s (bs p1.text)))])]⟩) (by kernel_rfl) ?_
                refine nil_in ?_
                refine next_in ?_
                refine seq_in ?_
                refine ops_in ?_
                refine sts_ok 2 (s' := ⟨[(93, (.d (.b y12.2))), (92, (.d (.i .i64 y12.1))), (11, (.d (.b y12.2))), (10, (.d (.i .i64 y12.1))), (91, (.d (.b y12.2))), (90, (.d (.i .i64 y12.1))), (84, (.tup [(.d (.i .i64 y12.1)), (.d (.b y12.2))])), (89, (.tup [(.d (.i .i64 y12.1)), (.d (.b y12.2))])), (88, (.d (.i .i64 p2.num))), (87, (.ptr 5 1)), (86, (.d (.i .i64 p1.num))), (85, (.ptr 4 1)), (82, (.d (.b (decide (p0 = 11))))), (83, (.d (.b (decide (p0 = 11))))), (67, (.d (.b (decide (p0 = 10))))), (68, (.d (.b (decide (p0 = 10))))), (50, (.d (.b (decide (p0 = 9))))), (51, (.d (.b (decide (p0 = 9))))), (49, (.d (.i .i64 p0))), (47, (.d (.b (if y6 = true then true else y7)))), (46, (.ite (true && (y6 == false)) (.d (.b y7)))), (45, (.ite (true && (y6 == false)) (vGValue p2))), (44, (.d (.b y6))), (43, (.d (.b y6))), (42, (vGValue p1)), (40, (.d (.b (!y5)))), (39, (.d (.b y5))), (38, (vGValue p2)), (37, (vGValue p1)), (36, (.d (.i .i64 p0))), (29, (.d (.b (decide (p0 ≤ 2))))), (28, (.d (.i .i64 p0))), (26, (.d (.b (if (if (!y1) = true then true else (!y2)) = true then true else (!y3))))), (25, (.ite (true && ((if (!y1) = true then true else (!y2)) == false)) (.d (.b (!y3))))), (24, (.ite (true && ((if (!y1) = true then true else (!y2)) == false)) (.d (.b y3)))), (23, (.ite (true && ((if (!y1) = true then true else (!y2)) == false)) (vGValue p2))), (22, (.d (.b (if (!y1) = true then true else (!y2))))), (21, (.d (.b (if (!y1) = true then true else (!y2))))), (20, (.ite (true && ((!y1) == false)) (.d (.b (!y2))))), (19, (.ite (true && ((!y1) == false)) (.d (.b y2)))), (18, (.ite (true && ((!y1) == false)) (vGValue p1))), (17, (.d (.b (!y1)))), (16, (.d (.b (!y1)))), (15, (.d (.b y1))), (14, (.d (.i .i64 p0))), (7, (.d (.i .i64 0))), (6, (.ptr 6 0)), (5, (.ptr 5 0)), (4, (.ptr 4 0)), (0, (.d (.i .i64 p0))), (1, (vGValue p1)), (2, (vGValue p2))], [(6, [(.d (.i .i64 0)), (.d (.i .i64 0)), (.d (.s (bs [])))]), (5, [(.d (.i .i64 p2.kind)), (.d (.i .i64 p2.num)), (.d (.s (bs p2.text)))]), (4, [(.d (.i .i64 p1.kind)), (.d (.i .i64 p1.num)), (.d (.s (bs p1.text)))])]⟩) (by kernel_rfl) ?_
                refine call_step (m := sL6Num y12.1 y12.2) (args := [(.d (.i .i64 y12.1)), (.d (.b y12.2))]) (v' := (fun y => (.tup [(vGValue y.1), (.d (.i .i64 y.2))]))) h (OK_sL6Num y12.1 y12.2) (by kernel_rfl) (by kernel_rfl) (fun _ => rfl) ?_
                clear h; intro y13 h
                refine sts_ok 4 (s' := ⟨[(7, (.d (.i .i64 y13.2))), (96, (.d (.i .i64 y13.2))), (95, (vGValue y13.1)), (94, (.tup [(vGValue y13.1), (.d (.i .i64 y13.2))])), (93, (.d (.b y12.2))), (92, (.d (.i .i64 y12.1))), (11, (.d (.b y12.2))), (10, (.d (.i .i64 y12.1))), (91, (.d (.b y12.2))), (90, (.d (.i .i64 y12.1))), (84, (.tup [(.d (.i .i64 y12.1)), (.d (.b y12.2))])), (89, (.tup [(.d (.i .i64 y12.1)), (.d (.b y12.2))])), (88, (.d (.i .i64 p2.num))), (87, (.ptr 5 1)), (86, (.d (.i .i64 p1.num))), (85, (.ptr 4 1)), (82, (.d (.b (decide (p0 = 11))))), (83, (.d (.b (decide (p0 = 11))))), (67, (.d (.b (decide (p0 = 10))))), (68, (.d (.b (decide (p0 = 10))))), (50, (.d (.b (decide (p0 = 9))))), (51, (.d (.b (decide (p0 = 9))))), (49, (.d (.i .i64 p0))), (47, (.d (.b (if y6 = true then true else y7)))), (46, (.ite (true && (y6 == false)) (.d (.b y7)))), (45, (.ite (true && (y6 == false)) (vGValue p2))), (44, (.d (.b y6))), (43, (.d (.b y6))), (42, (vGValue p1)), (40, (.d (.b (!y5)))), (39, (.d (.b y5))), (38, (vGValue p2)), (37, (vGValue p1)), (36, (.d (.i .i64 p0))), (29, (.d (.b (decide (p0 ≤ 2))))), (28, (.d (.i .i64 p0))), (26, (.d (.b (if (if (!y1) = true then true else (!y2)) = true then true else (!y3))))), (25, (.ite (true && ((if (!y1) = true then true else (!y2)) == false)) (.d (.b (!y3))))), (24, (.ite (true && ((if (!y1) = true then true else (!y2)) == false)) (.d (.b y3)))), (23, (.ite (true && ((if (!y1) = true then true else (!y2)) == false)) (vGValue p2))), (22, (.d (.b (if (!y1) = true then true else (!y2))))), (21, (.d (.b (if (!y1) = true then true else (!y2))))), (20, (.ite (true && ((!y1) == false)) (.d (.b (!y2))))), (19, (.ite (true && ((!y1) == false)) (.d (.b y2)))), (18, (.ite (true && ((!y1) == false)) (vGValue p1))), (17, (.d (.b (!y1)))), (16, (.d (.b (!y1)))), (15, (.d (.b y1))), (14, (.d (.i .i64 p0))), (7, (.d (.i .i64 0))), (6, (.ptr 6 0)), (5, (.ptr 5 0)), (4, (.ptr 4 0)), (0, (.d (.i .i64 p0))), (1, (vGValue p1)), (2, (vGValue p2))], [(6, [(.d (.i .i64 y13.1.kind)), (.d (.i .i64 y13.1.num)), (.d (.s (bs y13.1.text)))]), (5, [(.d (.i .i64 p2.kind)), (.d (.i .i64 p2.num)), (.d (.s (bs p2.text)))]), (4, [(.d (.i .i64 p1.kind)), (.d (.i .i64 p1.num)), (.d (.s (bs p1.text)))])]⟩) (by kernel_rfl) ?_
                refine nil_in ?_
                refine next_in ?_
                refine ret_in ?_
                refine blockK_ret ?_
                refine thenK_ret ?_
                have h := Option.some.inj h; subst h
                exact retn_step (vs := [(vGValue y13.1), (.d (.i .i64 y13.2))]) (by kernel_rfl) (by kernel_rfl)
              · clear h; intro h
                refine seq_in ?_
                refine ops_in ?_
                refine sts_ok 2 (s' := ⟨[(97, (.d (.b (decide (p0 = 12))))), (98, (.d (.b (decide (p0 = 12))))), (82, (.d (.b (decide (p0 = 11))))), (83, (.d (.b (decide (p0 = 11))))), (67, (.d (.b (decide (p0 = 10))))), (68, (.d (.b (decide (p0 = 10))))), (50, (.d (.b (decide (p0 = 9))))), (51, (.d (.b (decide (p0 = 9))))), (49, (.d (.i .i64 p0))), (47, (.d (.b (if y6 = true then true else y7)))), (46, (.ite (true && (y6 == false)) (.d (.b y7)))), (45, (.ite (true && (y6 == false)) (vGValue p2))), (44, (.d (.b y6))), (43, (.d (.b y6))), (42, (vGValue p1)), (40, (.d (.b (!y5)))), (39, (.d (.b y5))), (38, (vGValue p2)), (37, (vGValue p1)), (36, (.d (.i .i64 p0))), (29, (.d (.b (decide (p0 ≤ 2))))), (28, (.d (.i .i64 p0))), (26, (.d (.b (if (if (!y1) = true then true else (!y2)) = true then true else (!y3))))), (25, (.ite (true && ((if (!y1) = true then true else (!y2)) == false)) (.d (.b (!y3))))), (24, (.ite (true && ((if (!y1) = true then true else (!y2)) == false)) (.d (.b y3)))), (23, (.ite (true && ((if (!y1) = true then true else (!y2)) == false)) (vGValue p2))), (22, (.d (.b (if (!y1) = true then true else (!y2))))), (21, (.d (.b (if (!y1) = true then true else (!y2))))), (20, (.ite (true && ((!y1) == false)) (.d (.b (!y2))))), (19, (.ite (true && ((!y1) == false)) (.d (.b y2)))), (18, (.ite (true && ((!y1) == false)) (vGValue p1))), (17, (.d (.b (!y1)))), (16, (.d (.b (!y1)))), (15, (.d (.b y1))), (14, (.d (.i .i64 p0))), (7, (.d (.i .i64 0))), (6, (.ptr 6 0)), (5, (.ptr 5 0)), (4, (.ptr 4 0)), (0, (.d (.i .i64 p0))), (1, (vGValue p1)), (2, (vGValue p2))], [(6, [(.d (.i .i64 0)), (.d (.i .i64 0)), (.d (.s (bs [])))]), (5, [(.d (.i .i64 p2.kind)), (.d (.i .i64 p2.num)), (.d (.s (bs p2.text)))]), (4, [(.d (.i .i64 p1.kind)), (.d (.i .i64 p1.num)), (.d (.s (bs p1.text)))])]⟩) (by kernel_rfl) ?_
                refine nil_in ?_
                refine next_in ?_
                refine cond_step h (by kernel_rfl) ?_ ?_
                · clear h; intro h
                  refine seq_in ?_
                  refine ops_in ?_
                  refine sts_ok 4 (s' := ⟨[(103, (.d (.i .i64 p2.num))), (102, (.ptr 5 1)), (101, (.d (.i .i64 p1.num))), (100, (.ptr 4 1)), (97, (.d (.b (decide (p0 = 12))))), (98, (.d (.b (decide (p0 = 12))))), (82, (.d (.b (decide (p0 = 11))))), (83, (.d (.b (decide (p0 = 11))))), (67, (.d (.b (decide (p0 = 10))))), (68, (.d (.b (decide (p0 = 10))))), (50, (.d (.b (decide (p0 = 9))))), (51, (.d (.b (decide (p0 = 9))))), (49, (.d (.i .i64 p0))), (47, (.d (.b (if y6 = true then true else y7)))), (46, (.ite (true && (y6 == false)) (.d (.b y7)))), (45, (.ite (true && (y6 == false)) (vGValue p2))), (44, (.d (.b y6))), (43, (.d (.b y6))), (42, (vGValue p1)), (40, (.d (.b (!y5)))), (39, (.d (.b y5))), (38, (vGValue p2)), (37, (vGValue p1)), (36, (.d (.i .i64 p0))), (29, (.d (.b (decide (p0 ≤ 2))))), (28, (.d (.i .i64 p0))), (26, (.d (.b (if (if (!y1) = true then true else (!y2)) = true then true else (!y3))))), (25, (.ite (true && ((if (!y1) = true then true else (!y2)) == false)) (.d (.b (!y3))))), (24, (.ite (true && ((if (!y1) = true then true else (!y2)) == false)) (.d (.b y3)))), (23, (.ite (true && ((if (!y1) = true then true else (!y2)) == false)) (vGValue p2))), (22, (.d (.b (if (!y1) = true then true else (!y2))))), (21, (.d (.b (if (!y1) = true then true else (!y2))))), (20, (.ite (true && ((!y1) == false)) (.d (.b (!y2))))), (19, (.ite (true && ((!y1) == false)) (.d (.b y2)))), (18, (.ite (true && ((!y1) == false)) (vGValue p1))), (17, (.d (.b (!y1)))), (16, (.d (.b (!y1)))), (15, (.d (.b y1))), (14, (.d (.i .i64 p0))), (7, (.d (.i .i64 0))), (6, (.ptr 6 0)), (5, (.ptr 5 0)), (4, (.ptr 4 0)), (0, (.d (.i .i64 p0))), (1, (vGValue p1)), (2, (vGValue p2))], [(6, [(.d (.i .i64 0)), (.d (.i .i64 0)), (.d (.s (bs [])))]), (5, [(.d (.i .i64 p2.kind)), (.d (.i .i64 p2.num)), (.d (.s (bs p2.text)))]), (4, [(.d (.i .i64 p1.kind)), (.d (.i .i64 p1.num)), (.d (.s (bs p1.text)))])]⟩) (by kernel_rfl) ?_
                  refine call_step (m := sMulNum p1.num p2.num) (args := [(.d (.i .i64 p1.num)), (.d (.i .i64 p2.num))]) (v' := (fun y => (.tup [(.d (.i .i64 y.1)), (.d (.b y.2))]))) h (OK_sMulNum p1.num p2.num) (by kernel_rfl) (by kernel_rfl) (fun _ => rfl) ?_
                  clear h; intro y14 h
                  refine sts_ok 5 (s' := ⟨[(13, (.d (.b y14.2))), (12, (.d (.i .i64 y14.1))), (106, (.d (.b y14.2))), (105, (.d (.i .i64 y14.1))), (99, (.tup [(.d (.i .i64 y14.1)), (.d (.b y14.2))])), (104, (.tup [(.d (.i .i64 y14.1)), (.d (.b y14.2))])), (103, (.d (.i .i64 p2.num))), (102, (.ptr 5 1)), (101, (.d (.i .i64 p1.num))), (100, (.ptr 4 1)), (97, (.d (.b (decide (p0 = 12))))), (98, (.d (.b (decide (p0 = 12))))), (82, (.d (.b (decide (p0 = 11))))), (83, (.d (.b (decide (p0 = 11))))), (67, (.d (.b (decide (p0 = 10))))), (68, (.d (.b (decide (p0 = 10))))), (50, (.d (.b (decide (p0 = 9))))), (51, (.d (.b (decide (p0 = 9))))), (49, (.d (.i .i64 p0))), (47, (.d (.b (if y6 = true then true else y7)))), (46, (.ite (true && (y6 == false)) (.d (.b y7)))), (45, (.ite (true && (y6 == false)) (vGValue p2))), (44, (.d (.b y6))), (43, (.d (.b y6))), (42, (vGValue p1)), (40, (.d (.b (!y5)))), (39, (.d (.b y5))), (38, (vGValue p2)), (37, (vGValue p1)), (36, (.d (.i .i64 p0))), (29, (.d (.b (decide (p0 ≤ 2))))), (28, (.d (.i .i64 p0))), (26, (.d (.b (if (if (!y1) = true then true else (!y2)) = true then true else (!y3))))), (25, (.ite (true && ((if (!y1) = true then true else (!y2)) == false)) (.d (.b (!y3))))), (24, (.ite (true && ((if (!y1) = true then true else (!y2)) == false)) (.d (.b y3)))), (23, (.ite (true && ((if (!y1) = true then true else (!y2)) == false)) (vGValue p2))), (22, (.d (.b (if (!y1) = true then true else (!y2))))), (21, (.d (.b (if (!y1) = true then true else (!y2))))), (20, (.ite (true && ((!y1) == false)) (.d (.b (!y2))))), (19, (.ite (true && ((!y1) == false)) (.d (.b y2)))), (18, (.ite (true && ((!y1) == false)) (vGValue p1))), (17, (.d (.b (!y1)))), (16, (.d (.b (!y1)))), (15, (.d (.b y1))), (14, (.d (.i .i64 p0))), (7, (.d (.i .i64 0))), (6, (.ptr 6 0)), (5, (.ptr 5 0)), (4, (.ptr 4 0)), (0, (.d (.i .i64 p0))), (1, (vGValue p1)), (2, (vGValue p2))], [(6, [(.d (.i .i64 0)), (.d (.i .i64 0)), (.d (.s (bs [])))]), (5, [(.d (.i .i64 p2.kind)), (.d (.i .i64 p2.num)), (.d (.s (bs p2.text)))]), (4, [(.d (.i .i64 p1.kind)), (.d (.i .i64 p1.num)), (.d (.s (bs p1.text)))])]⟩) (by kernel_rfl) ?_
                  refine nil_in ?_
                  refine next_in ?_
                  refine seq_in ?_
                  refine ops_in ?_
                  refine sts_ok 2 (s' := ⟨[(108, (.d (.b y14.2))), (107, (.d (.i .i64 y14.1))), (13, (.d (.b y14.2))), (12, (.d (.i .i64 y14.1))), (106, (.d (.b y14.2))), (105, (.d (.i .i64 y14.1))), (99, (.tup [(.d (.i .i64 y14.1)), (.d (.b y14.2))])), (104, (.tup [(.d (.i .i64 y14.1)), (.d (.b y14.2))])), (103, (.d (.i .i64 p2.num))), (102, (.ptr 5 1)), (101, (.d (.i .i64 p1.num))), (100, (.ptr 4 1)), (97, (.d (.b (decide (p0 = 12))))), (98, (.d (.b (decide (p0 = 12))))), (82, (.d (.b (decide (p0 = 11))))), (83, (.d (.b (decide (p0 = 11))))), (67, (.d (.b (decide (p0 = 10))))), (68, (.d (.b (decide (p0 = 10))))), (50, (.d (.b (decide (p0 = 9))))), (51, (.d (.b (decide (p0 = 9))))), (49, (.d (.i .i64 p0))), (47, (.d (.b (if y6 = true then true else y7)))), (46, (.ite (true && (y6 == false)) (.d (.b y7)))), (45, (.ite (true && (y6 == false)) (vGValue p2))), (44, (.d (.b y6))), (43, (.d (.b y6))), (42, (vGValue p1)), (40, (.d (.b (!y5)))), (39, (.d (.b y5))), (38, (vGValue p2)), (37, (vGValue p1)), (36, (.d (.i .i64 p0))), (29, (.d (.b (decide (p0 ≤ 2))))), (28, (.d (.i .i64 p0))), (26, (.d (.b (if (if (!y1) = true then true else (!y2)) = true then true else (!y3))))), (25, (.ite (true && ((if (!y1) = true then true else (!y2)) == false)) (.d (.b (!y3))))), (24, (.ite (true && ((if (!y1) = true then true else (!y2)) == false)) (.d (.b y3)))), (23, (.ite (true && ((if (!y1) = true then true else (!y2)) == false)) (vGValue p2))), (22, (.d (.b (if (!y1) = true then true else (!y2))))), (21, (.d (.b (if (!y1) = true then true else (!y2))))), (20, (.ite (true && ((!y1) == false)) (.d (.b (!y2))))), (19, (.ite (true && ((!y1) == false)) (.d (.b y2)))), (18, (.ite (true && ((!y1) == false)) (vGValue p1))), (17, (.d (.b (!y1)))), (16, (.d (.b (!y1)))), (15, (.d (.b y1))), (14, (.d (.i .i64 p0))), (7, (.d (.i .i64 0))), (6, (.ptr 6 0)), (5, (.ptr 5 0)), (4, (.ptr 4 0)), (0, (.d (.i .i64 p0))), (1, (vGValue p1)), (2, (vGValue p2))], [(6, [(.d (.i .i64 0)), (.d (.i .i64 0)), (.d (.s (bs [])))]), (5, [(.d (.i .i64 p2.kind)), (.d (.i .i64 p2.num)), (.d (.s (bs p2.text)))]), (4, [(.d (.i .i64 p1.kind)), (.d (.i .i64 p1.num)), (.d (.s (bs p1.text)))])]⟩) (by kernel_rfl) ?_
                  refine call_step (m := sL6Num y14.1 y14.2) (args := [(.d (.i .i64 y14.1)), (.d (.b y14.2))]) (v' := (fun y => (.tup [(vGValue y.1), (.d (.i .i64 y.2))]))) h (OK_sL6Num y14.1 y14.2) (by kernel_rfl) (by kernel_rfl) (fun _ => rfl) ?_
                  clear h; intro y15 h
                  refine sts_ok 4 (s' := ⟨[(7, (.d (.i .i64 y15.2))), (111, (.d (.i .i64 y15.2))), (110, (vGValue y15.1)), (109, (.tup [(vGValue y15.1), (.d (.i .i64 y15.2))])), (108, (.d (.b y14.2))), (107, (.d (.i .i64 y14.1))), (13, (.d (.b y14.2))), (12, (.d (.i .i64 y14.1))), (106, (.d (.b y14.2))), (105, (.d (.i .i64 y14.1))), (99, (.tup [(.d (.i .i64 y14.1)), (.d (.b y14.2))])), (104, (.tup [(.d (.i .i64 y14.1)), (.d (.b y14.2))])), (103, (.d (.i .i64 p2.num))), (102, (.ptr 5 1)), (101, (.d (.i .i64 p1.num))), (100, (.ptr 4 1)), (97, (.d (.b (decide (p0 = 12))))), (98, (.d (.b (decide (p0 = 12))))), (82, (.d (.b (decide (p0 = 11))))), (83, (.d (.b (decide (p0 = 11))))), (67, (.d (.b (decide (p0 = 10))))), (68, (.d (.b (decide (p0 = 10))))), (50, (.d (.b (decide (p0 = 9))))), (51, (.d (.b (decide (p0 = 9))))), (49, (.d (.i .i64 p0))), (47, (.d (.b (if y6 = true then true else y7)))), (46, (.ite (true && (y6 == false)) (.d (.b y7)))), (45, (.ite (true && (y6 == false)) (vGValue p2))), (44, (.d (.b y6))), (43, (.d (.b y6))), (42, (vGValue p1)), (40, (.d (.b (!y5)))), (39, (.d (.b y5))), (38, (vGValue p2)), (37, (vGValue p1)), (36, (.d (.i .i64 p0))), (29, (.d (.b (decide (p0 ≤ 2))))), (28, (.d (.i .i64 p0))), (26, (.d (.b (if (if (!y1) = true then true else (!y2)) = true then true else (!y3))))), (25, (.ite (true && ((if (!y1) = true then true else (!y2)) == false)) (.d (.b (!y3))))), (24, (.ite (true && ((if (!y1) = true then true else (!y2)) == false)) (.d (.b y3)))), (23, (.ite (true && ((if (!y1) = true then true else (!y2)) == false)) (vGValue p2))), (22, (.d (.b (if (!y1) = true then true else (!y2))))), (21, (.d (.b (if (!y1) = true then true else (!y2))))), (20, (.ite (true && ((!y1) == false)) (.d (.b (!y2))))), (19, (.ite (true && ((!y1) == false)) (.d (.b y2)))), (18, (.ite (true && ((!y1) == false)) (vGValue p1))), (17, (.d (.b (!y1)))), (16, (.d (.b (!y1)))), (15, (.d (.b y1))), (14, (.d (.i .i64 p0))), (7, (.d (.i .i64 0))), (6, (.ptr 6 0)), (5, (.ptr 5 0)), (4, (.ptr 4 0)), (0, (.d (.i .i64 p0))), (1, (vGValue p1)), (2, (vGValue p2))], [(6, [(.d (.i .i64 y15.1.kind)), (.d (.i .i64 y15.1.num)), (.d (.s (bs y15.1.text)))]), (5, [(.d (.i .i64 p2.kind)), (.d (.i .i64 p2.num)), (.d (.s (bs p2.text)))]), (4, [(.d (.i .i64 p1.kind)), (.d (.i .i64 p1.num)), (.d (.s (bs p1.text)))])]⟩) (by kernel_rfl) ?_
                  refine nil_in ?_
                  refine next_in ?_
                  refine ret_in ?_
                  refine blockK_ret ?_
                  refine thenK_ret ?_
                  have h := Option.some.inj h; subst h
                  exact retn_step (vs := [(vGValue y15.1), (.d (.i .i64 y15.2))]) (by kernel_rfl) (by kernel_rfl)
                · clear h; intro h
                  refine seq_in ?_
                  refine seq_in ?_
                  refine ops_in ?_
                  refine sts_ok 2 (s' := ⟨[(112, (.d (.b (decide (p0 = 13))))), (113, (.d (.b (decide (p0 = 13))))), (97, (.d (.b (decide (p0 = 12))))), (98, (.d (.b (decide (p0 = 12))))), (82, (.d (.b (decide (p0 = 11))))), (83, (.d (.b (decide (p0 = 11))))), (67, (.d (.b (decide (p0 = 10))))), (68, (.d (.b (decide (p0 = 10))))), (50, (.d (.b (decide (p0 = 9))))), (51, (.d (.b (decide (p0 = 9))))), (49, (.d (.i .i64 p0))), (47, (.d (.b (if y6 = true then true else y7)))), (46, (.ite (true && (y6 == false)) (.d (.b y7)))), (45, (.ite (true && (y6 == false)) (vGValue p2))), (44, (.d (.b y6))), (43, (.d (.b y6))), (42, (vGValue p1)), (40, (.d (.b (!y5)))), (39, (.d (.b y5))), (38, (vGValue p2)), (37, (vGValue p1)), (36, (.d (.i .i64 p0))), (29, (.d (.b (decide (p0 ≤ 2))))), (28, (.d (.i .i64 p0))), (26, (.d (.b (if (if (!y1) = true then true else (!y2)) = true then true else (!y3))))), (25, (.ite (true && ((if (!y1) = true then true else (!y2)) == false)) (.d (.b (!y3))))), (24, (.ite (true && ((if (!y1) = true then true else (!y2)) == false)) (.d (.b y3)))), (23, (.ite (true && ((if (!y1) = true then true else (!y2)) == false)) (vGValue p2))), (22, (.d (.b (if (!y1) = true then true else (!y2))))), (21, (.d (.b (if (!y1) = true then true else (!y2))))), (20, (.ite (true && ((!y1) == false)) (.d (.b (!y2))))), (19, (.ite (true && ((!y1) == false)) (.d (.b y2)))), (18, (.ite (true && ((!y1) == false)) (vGValue p1))), (17, (.d (.b (!y1)))), (16, (.d (.b (!y1)))), (15, (.d (.b y1))), (14, (.d (.i .i64 p0))), (7, (.d (.i .i64 0))), (6, (.ptr 6 0)), (5, (.ptr 5 0)), (4, (.ptr 4 0)), (0, (.d (.i .i64 p0))), (1, (vGValue p1)), (2, (vGValue p2))], [(6, [(.d (.i .i64 0)), (.d (.i .i64 0)), (.d (.s (bs [])))]), (5, [(.d (.i .i64 p2.kind)), (.d (.i .i64 p2.num)), (.d (.s (bs p2.text)))]), (4, [(.d (.i .i64 p1.kind)), (.d (.i .i64 p1.num)), (.d (.s (bs p1.text)))])]⟩) (by kernel_rfl) ?_
                  refine nil_in ?_
                  refine next_in ?_
                  refine cond_step h (by kernel_rfl) ?_ ?_
                  · clear h; intro h
                    refine skip_in ?_
                    exact next_step (s' := stsCalc_J0 p0 p1 p2 (decide (p0 = 13))) (wk_ren [] (by kernel_rfl) (er_cons (vr_same (by kernel_rfl) (by kernel_rfl)) (er_cons (vr_same (by kernel_rfl) (by kernel_rfl)) (er_cons (vr_same (by kernel_rfl) (by kernel_rfl)) (er_cons (vr_same (by kernel_rfl) (by kernel_rfl)) (er_cons (vr_same (by kernel_rfl) (by kernel_rfl)) (er_nil)))))) (br_same (by kernel_rfl) (by kernel_rfl) (br_same (by kernel_rfl) (by kernel_rfl) (br_same (by kernel_rfl) (by kernel_rfl) (br_nil))))) (OK_sCalc_J0 p0 p1 p2 (decide (p0 = 13)) _ h)
                  · clear h; intro h
                    refine ops_in ?_
                    refine sts_ok 2 (s' := ⟨[(112, (.d (.b (decide (p0 = 14))))), (114, (.d (.b (decide (p0 = 14))))), (112, (.d (.b (decide (p0 = 13))))), (113, (.d (.b (decide (p0 = 13))))), (97, (.d (.b (decide (p0 = 12))))), (98, (.d (.b (decide (p0 = 12))))), (82, (.d (.b (decide (p0 = 11))))), (83, (.d (.b (decide (p0 = 11))))), (67, (.d (.b (decide (p0 = 10))))), (68, (.d (.b (decide (p0 = 10))))), (50, (.d (.b (decide (p0 = 9))))), (51, (.d (.b (decide (p0 = 9))))), (49, (.d (.i .i64 p0))), (47, (.d (.b (if y6 = true then true else y7)))), (46, (.ite (true && (y6 == false)) (.d (.b y7)))), (45, (.ite (true && (y6 == false)) (vGValue p2))), (44, (.d (.b y6))), (43, (.d (.b y6))), (42, (vGValue p1)), (40, (.d (.b (!y5)))), (39, (.d (.b y5))), (38, (vGValue p2)), (37, (vGValue p1)), (36, (.d (.i .i64 p0))), (29, (.d (.b (decide (p0 ≤ 2))))), (28, (.d (.i .i64 p0))), (26, (.d (.b (if (if (!y1) = true then true else (!y2)) = true then true else (!y3))))), (25, (.ite (true && ((if (!y1) = true then true else (!y2)) == false)) (.d (.b (!y3))))), (24, (.ite (true && ((if (!y1) = true then true else (!y2)) == false)) (.d (.b y3)))), (23, (.ite (true && ((if (!y1) = true then true else (!y2)) == false)) (vGValue p2))), (22, (.d (.b (if (!y1) = true then true else (!y2))))), (21, (.d (.b (if (!y1) = true then true else (!y2))))), (20, (.ite (true && ((!y1) == false)) (.d (.b (!y2))))), (19, (.ite (true && ((!y1) == false)) (.d (.b y2)))), (18, (.ite (true && ((!y1) == false)) (vGValue p1))), (17, (.d (.b (!y1)))), (16, (.d (.b (!y1)))), (15, (.d (.b y1))), (14, (.d (.i .i64 p0))), (7, (.d (.i .i64 0))), (6, (.ptr 6 0)), (5, (.ptr 5 0)), (4, (.ptr 4 0)), (0, (.d (.i .i64 p0))), (1, (vGValue p1)), (2, (vGValue p2))], [(6, [(.d (.i .i64 0)), (.d (.i .i64 0)), (.d (.s (bs [])))]), (5, [(.d (.i .i64 p2.kind)), (.d (.i .i64 p2.num)), (.d (.s (bs p2.text)))]), (4, [(.d (.i .i64 p1.kind)), (.d (.i .i64 p1.num)), (.d (.s (bs p1.text)))])]⟩) (by kernel_rfl) ?_
                    refine nil_in ?_
                    exact next_step (s' := stsCalc_J0 p0 p1 p2 (decide (p0 = 14))) (wk_ren [] (by kernel_rfl) (er_cons (vr_same (by kernel_rfl) (by kernel_rfl)) (er_cons (vr_same (by kernel_rfl) (by kernel_rfl)) (er_cons (vr_same (by kernel_rfl) (by kernel_rfl)) (er_cons (vr_same (by kernel_rfl) (by kernel_rfl)) (er_cons (vr_same (by kernel_rfl) (by kernel_rfl)) (er_nil)))))) (br_same (by kernel_rfl) (by kernel_rfl) (br_same (by kernel_rfl) (by kernel_rfl) (br_same (by kernel_rfl) (by kernel_rfl) (br_nil))))) (OK_sCalc_J0 p0 p1 p2 (decide (p0 = 14)) _ h)
theorem OK_sBetween (p0 : GValue) (p1 : GValue) (p2 : GValue) : FOk Try.prog 22 [(vGValue p0), (vGValue p1), (vGValue p2)] (fun y => (.tup [(vGValue y.1), (.d (.i .i64 y.2))])) (sBetween p0 p1 p2) := by
  intro r h
  rw [sBetween] at h
  refine acalls_of_fn trsBetween (Nat.le_of_ble_eq_true rfl) (by simp) ?_
  show avc Try.prog acsBetween (qsBetween _) ⟨[(0, (vGValue p0)), (1, (vGValue p1)), (2, (vGValue p2))], []⟩
  delta acsBetween
  refine seq_in ?_
  refine ops_in ?_
  refine sts_ok 5 (s' := ⟨[(7, (.d (.i .i64 0))), (6, (.ptr 6 0)), (5, (.ptr 5 0)), (4, (.ptr 4 0)), (3, (.ptr 3 0)), (0, (vGValue p0)), (1, (vGValue p1)), (2, (vGValue p2))], [(6, [(.d (.i .i64 0)), (.d (.i .i64 0)), (.d (.s (bs [])))]), (5, [(.d (.i .i64 p2.kind)), (.d (.i .i64 p2.num)), (.d (.s (bs p2.text)))]), (4, [(.d (.i .i64 p1.kind)), (.d (.i .i64 p1.num)), (.d (.s (bs p1.text)))]), (3, [(.d (.i .i64 p0.kind)), (.d (.i .i64 p0.num)), (.d (.s (bs p0.text)))])]⟩) (by kernel_rfl) ?_
  refine nil_in ?_
  refine next_in ?_
  refine seq_in ?_
  refine ops_in ?_
  refine sts_ok 2 (s' := ⟨[(14, (vGValue p1)), (13, (vGValue p0)), (7, (.d (.i .i64 0))), (6, (.ptr 6 0)), (5, (.ptr 5 0)), (4, (.ptr 4 0)), (3, (.ptr 3 0)), (0, (vGValue p0)), (1, (vGValue p1)), (2, (vGValue p2))], [(6, [(.d (.i .i64 0)), (.d (.i .i64 0)), (.d (.s (bs [])))]), (5, [(.d (.i .i64 p2.kind)), (.d (.i .i64 p2.num)), (.d (.s (bs p2.text)))]), (4, [(.d (.i .i64 p1.kind)), (.d (.i .i64 p1.num)), (.d (.s (bs p1.text)))]), (3, [(.d (.i .i64 p0.kind)), (.d (.i .i64 p0.num)), (.d (.s (bs p0.text)))])]⟩) (by kernel_rfl) ?_
  refine call_step (m := sCalc 8 p0 p1) (args := [(.d (.i .i64 8)), (vGValue p0), (vGValue p1)]) (v' := (fun y => (.tup [(vGValue y.1), (.d (.i .i64 y.2))]))) h (OK_sCalc 8 p0 p1) (by kernel_rfl) (by kernel_rfl) (fun _ => rfl) ?_
  clear h; intro y1 h
  refine sts_ok 6 (s' := ⟨[(9, (.d (.i .i64 y1.2))), (8, (.ptr 8 0)), (17, (.d (.i .i64 y1.2))), (16, (vGValue y1.1)), (12, (.tup [(vGValue y1.1), (.d (.i .i64 y1.2))])), (15, (.tup [(vGValue y1.1), (.d (.i .i64 y1.2))])), (14, (vGValue p1)), (13, (vGValue p0)), (7, (.d (.i .i64 0))), (6, (.ptr 6 0)), (5, (.ptr 5 0)), (4, (.ptr 4 0)), (3, (.ptr 3 0)), (0, (vGValue p0)), (1, (vGValue p1)), (2, (vGValue p2))], [(8, [(.d (.i .i64 y1.1.kind)), (.d (.i .i64 y1.1.num)), (.d (.s (bs y1.1.text)))]), (6, [(.d (.i .i64 0)), (.d (.i .i64 0)), (.d (.s (bs [])))]), (5, [(.d (.i .i64 p2.kind)), (.d (.i .i64 p2.num)), (.d (.s (bs p2.text)))]), (4, [(.d (.i .i64 p1.kind)), (.d (.i .i64 p1.num)), (.d (.s (bs p1.text)))]), (3, [(.d (.i .i64 p0.kind)), (.d (.i .i64 p0.num)), (.d (.s (bs p0.text)))])]⟩) (by kernel_rfl) ?_
  refine nil_in ?_
  refine next_in ?_
  refine seq_in ?_
  refine seq_in ?_
  refine ops_in ?_
  refine sts_ok 2 (s' := ⟨[(19, (.d (.b (!decide (y1.2 = 0))))), (18, (.d (.i .i64 y1.2))), (9, (.d (.i .i64 y1.2))), (8, (.ptr 8 0)), (17, (.d (.i .i64 y1.2))), (16, (vGValue y1.1)), (12, (.tup [(vGValue y1.1), (.d (.i .i64 y1.2))])), (15, (.tup [(vGValue y1.1), (.d (.i .i64 y1.2))])), (14, (vGValue p1)), (13, (vGValue p0)), (7, (.d (.i .i64 0))), (6, (.ptr 6 0)), (5, (.ptr 5 0)), (4, (.ptr 4 0)), (3, (.ptr 3 0)), (0, (vGValue p0)), (1, (vGValue p1)), (2, (vGValue p2))], [(8, [(.d (.i .i64 y1.1.kind)), (.d (.i .i64 y1.1.num)), (.d (.s (bs y1.1.text)))]), (6, [(.d (.i .i64 0)), (.d (.i .i64 0)), (.d (.s (bs [])))]), (5, [(.d (.i .i64 p2.kind)), (.d (.i .i64 p2.num)), (.d (.s (bs p2.text)))]), (4, [(.d (.i .i64 p1.kind)), (.d (.i .i64 p1.num)), (.d (.s (bs p1.text)))]), (3, [(.d (.i .i64 p0.kind)), (.d (.i .i64 p0.num)), (.d (.s (bs p0.text)))])]⟩) (by kernel_rfl) ?_
  refine nil_in ?_
  refine next_in ?_
  refine cond_step h (by kernel_rfl) ?_ ?_
  · clear h; intro h
    refine seq_in ?_
    refine ops_in ?_
    refine sts_ok 4 (s' := ⟨[(7, (.d (.i .i64 y1.2))), (21, (.d (.i .i64 y1.2))), (20, (vGValue (GValue.mk 0 0 []))), (19, (.d (.b (!decide (y1.2 = 0))))), (18, (.d (.i .i64 y1.2))), (9, (.d (.i .i64 y1.2))), (8, (.ptr 8 0)), (17, (.d (.i .i64 y1.2))), (16, (vGValue y1.1)), (12, (.tup [(vGValue y1.1), (.d (.i .i64 y1.2))])), (15, (.tup [(vGValue y1.1), (.d (.i .i64 y1.2))])), (14, (vGValue p1)), (13, (vGValue p0)), (7, (.d (.i .i64 0))), (6, (.ptr 6 0)), (5, (.ptr 5 0)), (4, (.ptr 4 0)), (3, (.ptr 3 0)), (0, (vGValue p0)), (1, (vGValue p1)), (2, (vGValue p2))], [(8, [(.d (.i .i64 y1.1.kind)), (.d (.i .i64 y1.1.num)), (.d (.s (bs y1.1.text)))]), (6, [(.d (.i .i64 0)), (.d (.i .i64 0)), (.d (.s (bs [])))]), (5, [(.d (.i .i64 p2.kind)), (.d (.i .i64 p2.num)), (.d (.s (bs p2.text)))]), (4, [(.d (.i .i64 p1.kind)), (.d (.i .i64 p1.num)), (.d (.s (bs p1.text)))]), (3, [(.d (.i .i64 p0.kind)), (.d (.i .i64 p0.num)), (.d (.s (bs p0.text)))])]⟩) (by kernel_rfl) ?_
    refine nil_in ?_
    refine next_in ?_
    refine ret_in ?_
    refine thenK_ret ?_
    have h := Option.some.inj h; subst h
    exact retn_step (vs := [(vGValue (GValue.mk 0 0 [])), (.d (.i .i64 y1.2))]) (by kernel_rfl) (by kernel_rfl)
  · clear h; intro h
    refine skip_in ?_
    refine next_in ?_
    refine seq_in ?_
    refine ops_in ?_
    refine sts_ok 2 (s' := ⟨[(24, (vGValue p2)), (23, (vGValue p0)), (19, (.d (.b (!decide (y1.2 = 0))))), (18, (.d (.i .i64 y1.2))), (9, (.d (.i .i64 y1.2))), (8, (.ptr 8 0)), (17, (.d (.i .i64 y1.2))), (16, (vGValue y1.1)), (12, (.tup [(vGValue y1.1), (.d (.i .i64 y1.2))])), (15, (.tup [(vGValue y1.1), (.d (.i .i64 y1.2))])), (14, (vGValue p1)), (13, (vGValue p0)), (7, (.d (.i .i64 0))), (6, (.ptr 6 0)), (5, (.ptr 5 0)), (4, (.ptr 4 0)), (3, (.ptr 3 0)), (0, (vGValue p0)), (1, (vGValue p1)), (2, (vGValue p2))], [(8, [(.d (.i .i64 y1.1.kind)), (.d (.i .i64 y1.1.num)), (.d (.s (bs y1.1.text)))]), (6, [(.d (.i .i64 0)), (.d (.i .i64 0)), (.d (.s (bs [])))]), (5, [(.d (.i .i64 p2.kind)), (.d (.i .i64 p2.num)), (.d (.s (bs p2.text)))]), (4, [(.d (.i .i64 p1.kind)), (.d (.i .i64 p1.num)), (.d (.s (bs p1.text)))]), (3, [(.d (.i .i64 p0.kind)), (.d (.i .i64 p0.num)), (.d (.s (bs p0.text)))])]⟩) (by kernel_rfl) ?_
    refine call_step (m := sCalc 6 p0 p2) (args := [(.d (.i .i64 6)), (vGValue p0), (vGValue p2)]) (v' := (fun y => (.tup [(vGValue y.1), (.d (.i .i64 y.2))]))) h (OK_sCalc 6 p0 p2) (by kernel_rfl) (by kernel_rfl) (fun _ => rfl) ?_
    clear h; intro y2 h
    refine sts_ok 6 (s' := ⟨[(11, (.d (.i .i64 y2.2))), (10, (.ptr 10 0)), (27, (.d (.i .i64 y2.2))), (26, (vGValue y2.1)), (22, (.tup [(vGValue y2.1), (.d (.i .i64 y2.2))])), (25, (.tup [(vGValue y2.1), (.d (.i .i64 y2.2))])), (24, (vGValue p2)), (23, (vGValue p0)), (19, (.d (.b (!decide (y1.2 = 0))))), (18, (.d (.i .i64 y1.2))), (9, (.d (.i .i64 y1.2))), (8, (.ptr 8 0)), (17, (.d (.i .i64 y1.2))), (16, (vGValue y1.1)), (12, (.tup [(vGValue y1.1), (.d (.i .i64 y1.2))])), (15, (.tup [(vGValue y1.1), (.d (.i .i64 y1.2))])), (14, (vGValue p1)), (13, (vGValue p0)), (7, (.d (.i .i64 0))), (6, (.ptr 6 0)), (5, (.ptr 5 0)), (4, (.ptr 4 0)), (3, (.ptr 3 0)), (0, (vGValue p0)), (1, (vGValue p1)), (2, (vGValue p2))], [(10, [(.d (.i .i64 y2.1.kind)), (.d (.i .i64 y2.1.num)), (.d (.s (bs y2.1.text)))]), (8, [(.d (.i .i64 y1.1.kind)), (.d (.i .i64 y1.1.num)), (.d (.s (bs y1.1.text)))]), (6, [(.d (.i .i64 0)), (.d (.i .i64 0)), (.d (.s (bs [])))]), (5, [(.d (.i .i64 p2.kind)), (.d (.i .i64 p2.num)), (.d (.s (bs p2.text)))]), (4, [(.d (.i .i64 p1.kind)), (.d (.i .i64 p1.num)), (.d (.s (bs p1.text)))]), (3, [(.d (.i .i64 p0.kind)), (.d (.i .i64 p0.num)), (.d (.s (bs p0.text)))])]⟩) (by kernel_rfl) ?_
    refine nil_in ?_
    refine next_in ?_
    refine seq_in ?_
    refine seq_in ?_
    refine ops_in ?_
    refine sts_ok 2 (s' := ⟨[(29, (.d (.b (!decide (y2.2 = 0))))), (28, (.d (.i .i64 y2.2))), (11, (.d (.i .i64 y2.2))), (10, (.ptr 10 0)), (27, (.d (.i .i64 y2.2))), (26, (vGValue y2.1)), (22, (.tup [(vGValue y2.1), (.d (.i .i64 y2.2))])), (25, (.tup [(vGValue y2.1), (.d (.i .i64 y2.2))])), (24, (vGValue p2)), (23, (vGValue p0)), (19, (.d (.b (!decide (y1.2 = 0))))), (18, (.d (.i .i64 y1.2))), (9, (.d (.i .i64 y1.2))), (8, (.ptr 8 0)), (17, (.d (.i .i64 y1.2))), (16, (vGValue y1.1)), (12, (.tup [(vGValue y1.1), (.d (.i .i64 y1.2))])), (15, (.tup [(vGValue y1.1), (.d (.i .i64 y1.2))])), (14, (vGValue p1)), (13, (vGValue p0)), (7, (.d (.i .i64 0))), (6, (.ptr 6 0)), (5, (.ptr 5 0)), (4, (.ptr 4 0)), (3, (.ptr 3 0)), (0, (vGValue p0)), (1, (vGValue p1)), (2, (vGValue p2))], [(10, [(.d (.i .i64 y2.1.kind)), (.d (.i .i64 y2.1.num)), (.d (.s (bs y2.1.text)))]), (8, [(.d (.i .i64 y1.1.kind)), (.d (.i .i64 y1.1.num)), (.d (.s (bs y1.1.text)))]), (6, [(.d (.i .i64 0)), (.d (.i .i64 0)), (.d (.s (bs [])))]), (5, [(.d (.i .i64 p2.kind)), (.d (.i .i64 p2.num)), (.d (.s (bs p2.text)))]), (4, [(.d (.i .i64 p1.kind)), (.d (.i .i64 p1.num)), (.d (.s (bs p1.text)))]), (3, [(.d (.i .i64 p0.kind)), (.d (.i .i64 p0.num)), (.d (.s (bs p0.text)))])]⟩) (by kernel_rfl) ?_
    refine nil_in ?_
    refine next_in ?_
    refine cond_step h (by kernel_rfl) ?_ ?_
    · clear h; intro h
      refine seq_in ?_
      refine ops_in ?_
      refine sts_ok 4 (s' := ⟨[(7, (.d (.i .i64 y2.2))), (31, (.d (.i .i64 y2.2))), (30, (vGValue (GValue.mk 0 0 []))), (29, (.d (.b (!decide (y2.2 = 0))))), (28, (.d (.i .i64 y2.2))), (11, (.d (.i .i64 y2.2))), (10, (.ptr 10 0)), (27, (.d (.i .i64 y2.2))), (26, (vGValue y2.1)), (22, (.tup [(vGValue y2.1), (.d (.i .i64 y2.2))])), (25, (.tup [(vGValue y2.1), (.d (.i .i64 y2.2))])), (24, (vGValue p2)), (23, (vGValue p0)), (19, (.d (.b (!decide (y1.2 = 0))))), (18, (.d (.i .i64 y1.2))), (9, (.d (.i .i64 y1.2))), (8, (.ptr 8 0)), (17, (.d (.i .i64 y1.2))), (16, (vGValue y1.1)), (12, (.tup [(vGValue y1.1), (.d (.i .i64 y1.2))])), (15, (.tup [(vGValue y1.1), (.d (.i .i64 y1.2))])), (14, (vGValue p1)), (13, (vGValue p0)), (7, (.d (.i .i64 0))), (6, (.ptr 6 0)), (5, (.ptr 5 0)), (4, (.ptr 4 0)), (3, (.ptr 3 0)), (0, (vGValue p0)), (1, (vGValue p1)), (2, (vGValue p2))], [(10, [(.d (.i .i64 y2.1.kind)), (.d (.i .i64 y2.1.num)), (.d (.s (bs y2.1.text)))]), (8, [(.d (.i .i64 y1.1.kind)), (.d (.i .i64 y1.1.num)), (.d (.s (bs y1.1.text)))]), (6, [(.d (.i .i64 0)), (.d (.i .i64 0)), (.d (.s (bs [])))]), (5, [(.d (.i .i64 p2.kind)), (.d (.i .i64 p2.num)), (.d (.s (bs p2.text)))]), (4, [(.d (.i .i64 p1.kind)), (.d (.i .i64 p1.num)), (.d (.s (bs p1.text)))]), (3, [(.d (.i .i64 p0.kind)), (.d (.i .i64 p0.num)), (.d (.s (bs p0.text)))])]⟩) (by kernel_rfl) ?_
      refine nil_in ?_
      refine next_in ?_
      refine ret_in ?_
      refine thenK_ret ?_
      have h := Option.some.inj h; subst h
      exact retn_step (vs := [(vGValue (GValue.mk 0 0 [])), (.d (.i .i64 y2.2))]) (by kernel_rfl) (by kernel_rfl)
    · clear h; intro h
      refine skip_in ?_
      refine next_in ?_
      refine seq_in ?_
      refine ops_in ?_
      refine sts_ok 2 (s' := ⟨[(33, (vGValue y2.1)), (32, (vGValue y1.1)), (29, (.d (.b (!decide (y2.2 = 0))))), (28, (.d (.i .i64 y2.2))), (11, (.d (.i .i64 y2.2))), (10, (.ptr 10 0)), (27, (.d (.i .i64 y2.2))), (26, (vGValue y2.1)), (22, (.tup [(vGValue y2.1), (.d (.i .i64 y2.2))])), (25, (.tup [(vGValue y2.1), (.d (.i .i64 y2.2))])), (24, (vGValue p2)), (23, (vGValue p0)), (19, (.d (.b (!decide (y1.2 = 0))))), (18, (.d (.i .i64 y1.2))), (9, (.d (.i .i64 y1.2))), (8, (.ptr 8 0)), (17, (.d (.i .i64 y1.2))), (16, (vGValue y1.1)), (12, (.tup [(vGValue y1.1), (.d (.i .i64 y1.2))])), (15, (.tup [(vGValue y1.1), (.d (.i .i64 y1.2))])), (14, (vGValue p1)), (13, (vGValue p0)), (7, (.d (.i .i64 0))), (6, (.ptr 6 0)), (5, (.ptr 5 0)), (4, (.ptr 4 0)), (3, (.ptr 3 0)), (0, (vGValue p0)), (1, (vGValue p1)), (2, (vGValue p2))], [(10, [(.d (.i .i64 y2.1.kind)), (.d (.i .i64 y2.1.num)), (.d (.s (bs y2.1.text)))]), (8, [(.d (.i .i64 y1.1.kind)), (.d (.i .i64 y1.1.num)), (.d (.s (bs y1.1.text)))]), (6, [(.d (.i .i64 0)), (.d (.i .i64 0)), (.d (.s (bs [])))]), (5, [(.d (.i .i64 p2.kind)), (.d (.i .i64 p2.num)), (.d (.s (bs p2.text)))]), (4, [(.d (.i .i64 p1.kind)), (.d (.i .i64 p1.num)), (.d (.s (bs p1.text)))]), (3, [(.d (.i .i64 p0.kind)), (.d (.i .i64 p0.num)), (.d (.s (bs p0.text)))])]⟩) (by kernel_rfl) ?_
      refine call_step (m := sCalc 2 y1.1 y2.1) (args := [(.d (.i .i64 2)), (vGValue y1.1), (vGValue y2.1)]) (v' := (fun y => (.tup [(vGValue y.1), (.d (.i .i64 y.2))]))) h (OK_sCalc 2 y1.1 y2.1) (by kernel_rfl) (by kernel_rfl) (fun _ => rfl) ?_
      clear h; intro y3 h
      refine sts_ok 4 (s' := ⟨[(7, (.d (.i .i64 y3.2))), (36, (.d (.i .i64 y3.2))), (35, (vGValue y3.1)), (34, (.tup [(vGValue y3.1), (.d (.i .i64 y3.2))])), (33, (vGValue y2.1)), (32, (vGValue y1.1)), (29, (.d (.b (!decide (y2.2 = 0))))), (28, (.d (.i .i64 y2.2))), (11, (.d (.i .i64 y2.2))), (10, (.ptr 10 0)), (27, (.d (.i .i64 y2.2))), (26, (vGValue y2.1)), (22, (.tup [(vGValue y2.1), (.d (.i .i64 y2.2))])), (25, (.tup [(vGValue y2.1), (.d (.i .i64 y2.2))])), (24, (vGValue p2)), (23, (vGValue p0)), (19, (.d (.b (!decide (y1.2 = 0))))), (18, (.d (.i .i64 y1.2))), (9, (.d (.i .i64 y1.2))), (8, (.ptr 8 0)), (17, (.d (.i .i64 y1.2))), (16, (vGValue y1.1)), (12, (.tup [(vGValue y1.1), (.d (.i .i64 y1.2))])), (15, (.tup [(vGValue y1.1), (.d (.i .i64 y1.2))])), (14, (vGValue p1)), (13, (vGValue p0)), (7, (.d (.i .i64 0))), (6, (.ptr 6 0)), (5, (.ptr 5 0)), (4, (.ptr 4 0)), (3, (.ptr 3 0)), (0, (vGValue p0)), (1, (vGValue p1)), (2, (vGValue p2))], [(10, [(.d (.i .i64 y2.1.kind)), (.d (.i .i64 y2.1.num)), (.d (.s (bs y2.1.text)))]), (8, [(.d (.i .i64 y1.1.kind)), (.d (.i .i64 y1.1.num)), (.d (.s (bs y1.1.text)))]), (6, [(.d (.i .i64 y3.1.kind)), (.d (.i .i64 y3.1.num)), (.d (.s (bs y3.1.text)))]), (5, [(.d (.i .i64 p2.kind)), (.d (.i .i64 p2.num)), (.d (.s (bs p2.text)))]), (4, [(.d (.i .i64 p1.kind)), (.d (.i .i64 p1.num)), (.d (.s (bs p1.text)))]), (3, [(.d (.i .i64 p0.kind)), (.d (.i .i64 p0.num)), (.d (.s (bs p0.text)))])]⟩) (by kernel_rfl) ?_
      refine nil_in ?_
      refine next_in ?_
      refine ret_in ?_
      have h := Option.some.inj h; subst h
      exact retn_step (vs := [(vGValue y3.1), (.d (.i .i64 y3.2))]) (by kernel_rfl) (by kernel_rfl)
theorem OK_sL1Byte_J0 (p0 : GL1Cur) (x3 : Int) (b1000000_1 : Int) (r : Int × GL1Cur) (h : sL1Byte_J0 p0 x3 b1000000_1 = some r) : avc Try.prog acsL1Byte_J0 (qsL1Byte r) (stsL1Byte_J0 p0 x3 b1000000_1) := by
  rw [sL1Byte_J0] at h
  delta acsL1Byte_J0
  refine seq_in ?_
  refine ops_in ?_
  refine sts_ok 2 (s' := ⟨(2, (.d (.i .i64 x3))) :: (57, (.d (.i .i64 x3))) :: (stsL1Byte_J0 p0 x3 b1000000_1).env, (stsL1Byte_J0 p0 x3 b1000000_1).bx⟩) (by kernel_rfl) ?_
  refine nil_in ?_
  refine next_in ?_
  refine ret_in ?_
  have h := Option.some.inj h; subst h
  exact ret1_step (v := (.d (.i .i64 x3))) (by kernel_rfl) (by kernel_rfl) ⟨by kernel_rfl, by kernel_rfl, trivial⟩
theorem OK_sL1Byte (p0 : GL1Cur) : FOkB Try.prog 147 [(.ptr 1000000 0)] [(1000000, bGL1Cur p0)] (fun (y : Int × GL1Cur) => (.d (.i .i64 y.1))) (fun (y : Int × GL1Cur) => [(1000000, bGL1Cur y.2)]) (sL1Byte p0) := by
  intro r h
  rw [sL1Byte] at h
  refine acalls_of_fn trsL1Byte (Nat.le_of_ble_eq_true rfl) (by intro n hn; simp at hn; omega) ?_
  show avc Try.prog acsL1Byte (qsL1Byte _) ⟨[(0, (.ptr 1000000 0))], [(1000000, bGL1Cur p0)]⟩
  delta acsL1Byte
  refine seq_in ?_
  refine ops_in ?_
  refine sts_ok 1 (s' := ⟨[(2, (.d (.i .i64 0))), (0, (.ptr 1000000 0))], [(1000000, bGL1Cur p0)]⟩) (by kernel_rfl) ?_
  refine nil_in ?_
  refine next_in ?_
  refine seq_in ?_
  refine ops_in ?_
  refine sts_ok 10 (s' := ⟨[(12, (.ptr 1000000 2)), (11, (.ptr 1000000 0)), (10, (.d (.i .i64 (IntKind.wrap .i64 ((IntKind.wrap .i64 (p0.h * 6364136223846793005)) + 1442695040888963407))))), (9, (.d (.i .i64 (IntKind.wrap .i64 (p0.h * 6364136223846793005))))), (8, (.d (.i .i64 p0.h))), (7, (.ptr 1000000 2)), (6, (.ptr 1000000 0)), (5, (.ptr 1000000 0)), (4, (.ptr 1000000 0)), (2, (.d (.i .i64 0))), (0, (.ptr 1000000 0))], [(1000000, bGL1Cur (GL1Cur.mk p0.b p0.i (IntKind.wrap .i64 ((IntKind.wrap .i64 (p0.h * 6364136223846793005)) + 1442695040888963407))))]⟩) (by kernel_rfl) ?_
  refine nil_in ?_
  refine next_in ?_
  refine seq_in ?_
  refine dops_in ?_
  refine dsts_ok 13 (s' := ⟨[(3, (.d (.i .i64 (IntKind.wrap .i64 ((BitVec.ofInt (IntKind.bits .i64) (IntKind.wrap .i64 ((BitVec.ofInt (IntKind.bits .i64) (Int.fdiv (IntKind.wrap .i64 ((IntKind.wrap .i64 (p0.h * 6364136223846793005)) + 1442695040888963407)) (2 ^ 33)) ^^^ BitVec.ofInt (IntKind.bits .i64) (Int.fdiv (IntKind.wrap .i64 ((IntKind.wrap .i64 (p0.h * 6364136223846793005)) + 1442695040888963407)) (2 ^ 45))).toNat : Int)) &&& BitVec.ofInt (IntKind.bits .i64) 255).toNat : Int))))), (24, (.d (.i .i64 (IntKind.wrap .i64 ((BitVec.ofInt (IntKind.bits .i64) (IntKind.wrap .i64 ((BitVec.ofInt (IntKind.bits .i64) (Int.fdiv (IntKind.wrap .i64 ((IntKind.wrap .i64 (p0.h * 6364136223846793005)) + 1442695040888963407)) (2 ^ 33)) ^^^ BitVec.ofInt (IntKind.bits .i64) (Int.fdiv (IntKind.wrap .i64 ((IntKind.wrap .i64 (p0.h * 6364136223846793005)) + 1442695040888963407)) (2 ^ 45))).toNat : Int)) &&& BitVec.ofInt (IntKind.bits .i64) 255).toNat : Int))))), (23, (.d (.i .i64 (IntKind.wrap .i64 ((BitVec.ofInt (IntKind.bits .i64) (Int.fdiv (IntKind.wrap .i64 ((IntKind.wrap .i64 (p0.h * 6364136223846793005)) + 1442695040888963407)) (2 ^ 33)) ^^^ BitVec.ofInt (IntKind.bits .i64) (Int.fdiv (IntKind.wrap .i64 ((IntKind.wrap .i64 (p0.h * 6364136223846793005)) + 1442695040888963407)) (2 ^ 45))).toNat : Int))))), (22, (.d (.i .i64 (Int.fdiv (IntKind.wrap .i64 ((IntKind.wrap .i64 (p0.h * 6364136223846793005)) + 1442695040888963407)) (2 ^ 45))))), (21, (.d (.i .i64 (IntKind.wrap .i64 ((IntKind.wrap .i64 (p0.h * 6364136223846793005)) + 1442695040888963407))))), (20, (.ptr 1000000 2)), (19, (.ptr 1000000 0)), (18, (.ptr 1000000 0)), (17, (.d (.i .i64 (Int.fdiv (IntKind.wrap .i64 ((IntKind.wrap .i64 (p0.h * 6364136223846793005)) + 1442695040888963407)) (2 ^ 33))))), (16, (.d (.i .i64 (IntKind.wrap .i64 ((IntKind.wrap .i64 (p0.h * 6364136223846793005)) + 1442695040888963407))))), (15, (.ptr 1000000 2)), (14, (.ptr 1000000 0)), (13, (.ptr 1000000 0)), (12, (.ptr 1000000 2)), (11, (.ptr 1000000 0)), (10, (.d (.i .i64 (IntKind.wrap .i64 ((IntKind.wrap .i64 (p0.h * 6364136223846793005)) + 1442695040888963407))))), (9, (.d (.i .i64 (IntKind.wrap .i64 (p0.h * 6364136223846793005))))), (8, (.d (.i .i64 p0.h))), (7, (.ptr 1000000 2)), (6, (.ptr 1000000 0)), (5, (.ptr 1000000 0)), (4, (.ptr 1000000 0)), (2, (.d (.i .i64 0))), (0, (.ptr 1000000 0))], [(1000000, bGL1Cur (GL1Cur.mk p0.b p0.i (IntKind.wrap .i64 ((IntKind.wrap .i64 (p0.h * 6364136223846793005)) + 1442695040888963407))))]⟩) (by kernel_rfl) ?_
  refine dnil_in (by kernel_rfl) (by kernel_rfl) ?_
  refine next_in ?_
  refine seq_in ?_
  refine seq_in ?_
  refine dops_in ?_
  refine dsts_ok 8 (s' := ⟨[(32, (.d (.sl 1 (p0.b.map cU8)))), (31, (.ptr 1000000 0)), (30, (.ptr 1000000 0)), (29, (.ptr 1000000 0)), (28, (.d (.i .i64 p0.i))), (27, (.ptr 1000000 1)), (26, (.ptr 1000000 0)), (25, (.ptr 1000000 0)), (3, (.d (.i .i64 (IntKind.wrap .i64 ((BitVec.ofInt (IntKind.bits .i64) (IntKind.wrap .i64 ((BitVec.ofInt (IntKind.bits .i64) (Int.fdiv (IntKind.wrap .i64 ((IntKind.wrap .i64 (p0.h * 6364136223846793005)) + 1442695040888963407)) (2 ^ 33)) ^^^ BitVec.ofInt (IntKind.bits .i64) (Int.fdiv (IntKind.wrap .i64 ((IntKind.wrap .i64 (p0.h * 6364136223846793005)) + 1442695040888963407)) (2 ^ 45))).toNat : Int)) &&& BitVec.ofInt (IntKind.bits .i64) 255).toNat : Int))))), (24, (.d (.i .i64 (IntKind.wrap .i64 ((BitVec.ofInt (IntKind.bits .i64) (IntKind.wrap .i64 ((BitVec.ofInt (IntKind.bits .i64) (Int.fdiv (IntKind.wrap .i64 ((IntKind.wrap .i64 (p0.h * 6364136223846793005)) + 1442695040888963407)) (2 ^ 33)) ^^^ BitVec.ofInt (IntKind.bits .i64) (Int.fdiv (IntKind.wrap .i64 ((IntKind.wrap .i64 (p0.h * 6364136223846793005)) + 1442695040888963407)) (2 ^ 45))).toNat : Int)) &&& BitVec.ofInt (IntKind.bits .i64) 255).toNat : Int))))), (23, (.d (.i .i64 (IntKind.wrap .i64 ((BitVec.ofInt (IntKind.bits .i64) (Int.fdiv (IntKind.wrap .i64 ((IntKind.wrap .i64 (p0.h * 6364136223846793005)) + 1442695040888963407)) (2 ^ 33)) ^^^ BitVec.ofInt (IntKind.bits .i64) (Int.fdiv (IntKind.wrap .i64 ((IntKind.wrap .i64 (p0.h * 6364136223846793005)) + 1442695040888963407)) (2 ^ 45))).toNat : Int))))), (22, (.d (.i .i64 (Int.fdiv (IntKind.wrap .i64 ((IntKind.wrap .i64 (p0.h * 6364136223846793005)) + 1442695040888963407)) (2 ^ 45))))), (21, (.d (.i .i64 (IntKind.wrap .i64 ((IntKind.wrap .i64 (p0.h * 6364136223846793005)) + 1442695040888963407))))), (20, (.ptr 1000000 2)), (19, (.ptr 1000000 0)), (18, (.ptr 1000000 0)), (17, (.d (.i .i64 (Int.fdiv (IntKind.wrap .i64 ((IntKind.wrap .i64 (p0.h * 6364136223846793005)) + 1442695040888963407)) (2 ^ 33))))), (16, (.d (.i .i64 (IntKind.wrap .i64 ((IntKind.wrap .i64 (p0.h * 6364136223846793005)) + 1442695040888963407))))), (15, (.ptr 1000000 2)), (14, (.ptr 1000000 0)), (13, (.ptr 1000000 0)), (12, (.ptr 1000000 2)), (11, (.ptr 1000000 0)), (10, (.d (.i .i64 (IntKind.wrap .i64 ((IntKind.wrap .i64 (p0.h * 6364136223846793005)) + 1442695040888963407))))), (9, (.d (.i .i64 (IntKind.wrap .i64 (p0.h * 6364136223846793005))))), (8, (.d (.i .i64 p0.h))), (7, (.ptr 1000000 2)), (6, (.ptr 1000000 0)), (5, (.ptr 1000000 0)), (4, (.ptr 1000000 0)), (2, (.d (.i .i64 0))), (0, (.ptr 1000000 0))], [(1000000, bGL1Cur (GL1Cur.mk p0.b p0.i (IntKind.wrap .i64 ((IntKind.wrap .i64 (p0.h * 6364136223846793005)) + 1442695040888963407))))]⟩) (by kernel_rfl) ?_
  refine dp_step (v' := (.d (.i .i64 (p0.b.length : Int)))) rfl rfl (vop_len (sz := 1) (l := p0.b) (f := cU8) (by kernel_rfl) (by kernel_rfl)) ?_
  refine dsts_ok 1 (s' := ⟨[(34, (.d (.b (decide (p0.i < (p0.b.length : Int)))))), (33, (.d (.i .i64 (p0.b.length : Int)))), (32, (.d (.sl 1 (p0.b.map cU8)))), (31, (.ptr 1000000 0)), (30, (.ptr 1000000 0)), (29, (.ptr 1000000 0)), (28, (.d (.i .i64 p0.i))), (27, (.ptr 1000000 1)), (26, (.ptr 1000000 0)), (25, (.ptr 1000000 0)), (3, (.d (.i .i64 (IntKind.wrap .i64 ((BitVec.ofInt (IntKind.bits .i64) (IntKind.wrap .i64 ((BitVec.ofInt (IntKind.bits .i64) (Int.fdiv (IntKind.wrap .i64 ((IntKind.wrap .i64 (p0.h * 6364136223846793005)) + 1442695040888963407)) (2 ^ 33)) ^^^ BitVec.ofInt (IntKind.bits .i64) (Int.fdiv (IntKind.wrap .i64 ((IntKind.wrap .i64 (p0.h * 6364136223846793005)) + 1442695040888963407)) (2 ^ 45))).toNat : Int)) &&& BitVec.ofInt (IntKind.bits .i64) 255).toNat : Int))))), (24, (.d (.i .i64 (IntKind.wrap .i64 ((BitVec.ofInt (IntKind.bits .i64) (IntKind.wrap .i64 ((BitVec.ofInt (IntKind.bits .i64) (Int.fdiv (IntKind.wrap .i64 ((IntKind.wrap .i64 (p0.h * 6364136223846793005)) + 1442695040888963407)) (2 ^ 33)) ^^^ BitVec.ofInt (IntKind.bits .i64) (Int.fdiv (IntKind.wrap .i64 ((IntKind.wrap .i64 (p0.h * 6364136223846793005)) + 1442695040888963407)) (2 ^ 45))).toNat : Int)) &&& BitVec.ofInt (IntKind.bits .i64) 255).toNat : Int))))), (23, (.d (.i .i64 (IntKind.wrap .i64 ((BitVec.ofInt (IntKind.bits .i64) (Int.fdiv (IntKind.wrap .i64 ((IntKind.wrap .i64 (p0.h * 6364136223846793005)) + 1442695040888963407)) (2 ^ 33)) ^^^ BitVec.ofInt (IntKind.bits .i64) (Int.fdiv (IntKind.wrap .i64 ((IntKind.wrap .i64 (p0.h * 6364136223846793005)) + 1442695040888963407)) (2 ^ 45))).toNat : Int))))), (22, (.d (.i .i64 (Int.fdiv (IntKind.wrap .i64 ((IntKind.wrap .i64 (p0.h * 6364136223846793005)) + 1442695040888963407)) (2 ^ 45))))), (21, (.d (.i .i64 (IntKind.wrap .i64 ((IntKind.wrap .i64 (p0.h * 6364136223846793005)) + 1442695040888963407))))), (20, (.ptr 1000000 2)), (19, (.ptr 1000000 0)), (18, (.ptr 1000000 0)), (17, (.d (.i .i64 (Int.fdiv (IntKind.wrap .i64 ((IntKind.wrap .i64 (p0.h * 6364136223846793005)) + 1442695040888963407)) (2 ^ 33))))), (16, (.d (.i .i64 (IntKind.wrap .i64 ((IntKind.wrap .i64 (p0.h * 6364136223846793005)) + 1442695040888963407))))), (15, (.ptr 1000000 2)), (14, (.ptr 1000000 0)), (13, (.ptr 1000000 0)), (12, (.ptr 1000000 2)), (11, (.ptr 1000000 0)), (10, (.d (.i .i64 (IntKind.wrap .i64 ((IntKind.wrap .i64 (p0.h * 6364136223846793005)) + 1442695040888963407))))), (9, (.d (.i .i64 (IntKind.wrap .i64 (p0.h * 6364136223846793005))))), (8, (.d (.i .i64 p0.h))), (7, (.ptr 1000000 2)), (6, (.ptr 1000000 0)), (5, (.ptr 1000000 0)), (4, (.ptr 1000000 0)), (2, (.d (.i .i64 0))), (0, (.ptr 1000000 0))], [(1000000, bGL1Cur (GL1Cur.mk p0.b p0.i (IntKind.wrap .i64 ((IntKind.wrap .i64 (p0.h * 6364136223846793005)) + 1442695040888963407))))]⟩) (by kernel_rfl) ?_
  refine dnil_in (by kernel_rfl) (by kernel_rfl) ?_
  refine next_in ?_
  refine cond_step h (by kernel_rfl) ?_ ?_
  · clear h; intro h
    refine seq_in ?_
    refine dops_in ?_
    refine dsts_ok 9 (s' := ⟨[(43, (.d (.i .i64 p0.i))), (42, (.ptr 1000000 1)), (41, (.ptr 1000000 0)), (40, (.ptr 1000000 0)), (39, (.d (.sl 1 (p0.b.map cU8)))), (38, (.ptr 1000000 0)), (37, (.ptr 1000000 0)), (36, (.ptr 1000000 0)), (35, (.d (.i .i64 (IntKind.wrap .i64 ((BitVec.ofInt (IntKind.bits .i64) (IntKind.wrap .i64 ((BitVec.ofInt (IntKind.bits .i64) (Int.fdiv (IntKind.wrap .i64 ((IntKind.wrap .i64 (p0.h * 6364136223846793005)) + 1442695040888963407)) (2 ^ 33)) ^^^ BitVec.ofInt (IntKind.bits .i64) (Int.fdiv (IntKind.wrap .i64 ((IntKind.wrap .i64 (p0.h * 6364136223846793005)) + 1442695040888963407)) (2 ^ 45))).toNat : Int)) &&& BitVec.ofInt (IntKind.bits .i64) 255).toNat : Int))))), (34, (.d (.b (decide (p0.i < (p0.b.length : Int)))))), (33, (.d (.i .i64 (p0.b.length : Int)))), (32, (.d (.sl 1 (p0.b.map cU8)))), (31, (.ptr 1000000 0)), (30, (.ptr 1000000 0)), (29, (.ptr 1000000 0)), (28, (.d (.i .i64 p0.i))), (27, (.ptr 1000000 1)), (26, (.ptr 1000000 0)), (25, (.ptr 1000000 0)), (3, (.d (.i .i64 (IntKind.wrap .i64 ((BitVec.ofInt (IntKind.bits .i64) (IntKind.wrap .i64 ((BitVec.ofInt (IntKind.bits .i64) (Int.fdiv (IntKind.wrap .i64 ((IntKind.wrap .i64 (p0.h * 6364136223846793005)) + 1442695040888963407)) (2 ^ 33)) ^^^ BitVec.ofInt (IntKind.bits .i64) (Int.fdiv (IntKind.wrap .i64 ((IntKind.wrap .i64 (p0.h * 6364136223846793005)) + 1442695040888963407)) (2 ^ 45))).toNat : Int)) &&& BitVec.ofInt (IntKind.bits .i64) 255).toNat : Int))))), (24, (.d (.i .i64 (IntKind.wrap .i64 ((BitVec.ofInt (IntKind.bits .i64) (IntKind.wrap .i64 ((BitVec.ofInt (IntKind.bits .i64) (Int.fdiv (IntKind.wrap .i64 ((IntKind.wrap .i64 (p0.h * 6364136223846793005)) + 1442695040888963407)) (2 ^ 33)) ^^^ BitVec.ofInt (IntKind.bits .i64) (Int.fdiv (IntKind.wrap .i64 ((IntKind.wrap .i64 (p0.h * 6364136223846793005)) + 1442695040888963407)) (2 ^ 45))).toNat : Int)) &&& BitVec.ofInt (IntKind.bits .i64) 255).toNat : Int))))), (23, (.d (.i .i64 (IntKind.wrap .i64 ((BitVec.ofInt (IntKind.bits .i64) (Int.fdiv (IntKind.wrap .i64 ((IntKind.wrap .i64 (p0.h * 6364136223846793005)) + 1442695040888963407)) (2 ^ 33)) ^^^ BitVec.ofInt (IntKind.bits .i64) (Int.fdiv (IntKind.wrap .i64 ((IntKind.wrap .i64 (p0.h * 6364136223846793005)) + 1442695040888963407)) (2 ^ 45))).toNat : Int))))), (22, (.d (.i .i64 (Int.fdiv (IntKind.wrap .i64 ((IntKind.wrap .i64 (p0.h * 6364136223846793005)) + 1442695040888963407)) (2 ^ 45))))), (21, (.d (.i .i64 (IntKind.wrap .i64 ((IntKind.wrap .i64 (p0.h * 6364136223846793005)) + 1442695040888963407))))), (20, (.ptr 1000000 2)), (19, (.ptr 1000000 0)), (18, (.ptr 1000000 0)), (17, (.d (.i .i64 (Int.fdiv (IntKind.wrap .i64 ((IntKind.wrap .i64 (p0.h * 6364136223846793005)) + 1442695040888963407)) (2 ^ 33))))), (16, (.d (.i .i64 (IntKind.wrap .i64 ((IntKind.wrap .i64 (p0.h * 6364136223846793005)) + 1442695040888963407))))), (15, (.ptr 1000000 2)), (14, (.ptr 1000000 0)), (13, (.ptr 1000000 0)), (12, (.ptr 1000000 2)), (11, (.ptr 1000000 0)), (10, (.d (.i .i64 (IntKind.wrap .i64 ((IntKind.wrap .i64 (p0.h * 6364136223846793005)) + 1442695040888963407))))), (9, (.d (.i .i64 (IntKind.wrap .i64 (p0.h * 6364136223846793005))))), (8, (.d (.i .i64 p0.h))), (7, (.ptr 1000000 2)), (6, (.ptr 1000000 0)), (5, (.ptr 1000000 0)), (4, (.ptr 1000000 0)), (2, (.d (.i .i64 0))), (0, (.ptr 1000000 0))], [(1000000, bGL1Cur (GL1Cur.mk p0.b p0.i (IntKind.wrap .i64 ((IntKind.wrap .i64 (p0.h * 6364136223846793005)) + 1442695040888963407))))]⟩) (by kernel_rfl) ?_
    refine dv_step (m := idx p0.b p0.i) (v' := fun y => (.rp [(.i .u8 y)])) h rfl rfl (fun y hy => vop_ia (l := p0.b) (f := cU8) (g := cU8) (k := .i64) hy (fun _ => rfl) (by kernel_rfl) (by kernel_rfl) (by kernel_rfl)) ?_
    clear h; intro y1 h
    refine dsts_ok 5 (s' := ⟨[(3, (.d (.i .i64 (IntKind.wrap .i64 ((BitVec.ofInt (IntKind.bits .i64) (IntKind.wrap .i64 ((IntKind.wrap .i64 ((BitVec.ofInt (IntKind.bits .i64) (IntKind.wrap .i64 ((BitVec.ofInt (IntKind.bits .i64) (Int.fdiv (IntKind.wrap .i64 ((IntKind.wrap .i64 (p0.h * 6364136223846793005)) + 1442695040888963407)) (2 ^ 33)) ^^^ BitVec.ofInt (IntKind.bits .i64) (Int.fdiv (IntKind.wrap .i64 ((IntKind.wrap .i64 (p0.h * 6364136223846793005)) + 1442695040888963407)) (2 ^ 45))).toNat : Int)) &&& BitVec.ofInt (IntKind.bits .i64) 255).toNat : Int)) + (IntKind.wrap .i64 y1))) &&& BitVec.ofInt (IntKind.bits .i64) 255).toNat : Int))))), (48, (.d (.i .i64 (IntKind.wrap .i64 ((BitVec.ofInt (IntKind.bits .i64) (IntKind.wrap .i64 ((IntKind.wrap .i64 ((BitVec.ofInt (IntKind.bits .i64) (IntKind.wrap .i64 ((BitVec.ofInt (IntKind.bits .i64) (Int.fdiv (IntKind.wrap .i64 ((IntKind.wrap .i64 (p0.h * 6364136223846793005)) + 1442695040888963407)) (2 ^ 33)) ^^^ BitVec.ofInt (IntKind.bits .i64) (Int.fdiv (IntKind.wrap .i64 ((IntKind.wrap .i64 (p0.h * 6364136223846793005)) + 1442695040888963407)) (2 ^ 45))).toNat : Int)) &&& BitVec.ofInt (IntKind.bits .i64) 255).toNat : Int)) + (IntKind.wrap .i64 y1))) &&& BitVec.ofInt (IntKind.bits .i64) 255).toNat : Int))))), (47, (.d (.i .i64 (IntKind.wrap .i64 ((IntKind.wrap .i64 ((BitVec.ofInt (IntKind.bits .i64) (IntKind.wrap .i64 ((BitVec.ofInt (IntKind.bits .i64) (Int.fdiv (IntKind.wrap .i64 ((IntKind.wrap .i64 (p0.h * 6364136223846793005)) + 1442695040888963407)) (2 ^ 33)) ^^^ BitVec.ofInt (IntKind.bits .i64) (Int.fdiv (IntKind.wrap .i64 ((IntKind.wrap .i64 (p0.h * 6364136223846793005)) + 1442695040888963407)) (2 ^ 45))).toNat : Int)) &&& BitVec.ofInt (IntKind.bits .i64) 255).toNat : Int)) + (IntKind.wrap .i64 y1)))))), (46, (.d (.i .i64 (IntKind.wrap .i64 y1)))), (45, (.d (.i .u8 y1))), (44, (.rp [(.i .u8 y1)])), (43, (.d (.i .i64 p0.i))), (42, (.ptr 1000000 1)), (41, (.ptr 1000000 0)), (40, (.ptr 1000000 0)), (39, (.d (.sl 1 (p0.b.map cU8)))), (38, (.ptr 1000000 0)), (37, (.ptr 1000000 0)), (36, (.ptr 1000000 0)), (35, (.d (.i .i64 (IntKind.wrap .i64 ((BitVec.ofInt (IntKind.bits .i64) (IntKind.wrap .i64 ((BitVec.ofInt (IntKind.bits .i64) (Int.fdiv (IntKind.wrap .i64 ((IntKind.wrap .i64 (p0.h * 6364136223846793005)) + 1442695040888963407)) (2 ^ 33)) ^^^ BitVec.ofInt (IntKind.bits .i64) (Int.fdiv (IntKind.wrap .i64 ((IntKind.wrap .i64 (p0.h * 6364136223846793005)) + 1442695040888963407)) (2 ^ 45))).toNat : Int)) &&& BitVec.ofInt (IntKind.bits .i64) 255).toNat : Int))))), (34, (.d (.b (decide (p0.i < (p0.b.length : Int)))))), (33, (.d (.i .i64 (p0.b.length : Int)))), (32, (.d (.sl 1 (p0.b.map cU8)))), (31, (.ptr 1000000 0)), (30, (.ptr 1000000 0)), (29, (.ptr 1000000 0)), (28, (.d (.i .i64 p0.i))), (27, (.ptr 1000000 1)), (26, (.ptr 1000000 0)), (25, (.ptr 1000000 0)), (3, (.d (.i .i64 (IntKind.wrap .i64 ((BitVec.ofInt (IntKind.bits .i64) (IntKind.wrap .i64 ((BitVec.ofInt (IntKind.bits .i64) (Int.fdiv (IntKind.wrap .i64 ((IntKind.wrap .i64 (p0.h * 6364136223846793005)) + 1442695040888963407)) (2 ^ 33)) ^^^ BitVec.ofInt (IntKind.bits .i64) (Int.fdiv (IntKind.wrap .i64 ((IntKind.wrap .i64 (p0.h * 6364136223846793005)) + 1442695040888963407)) (2 ^ 45))).toNat : Int)) &&& BitVec.ofInt (IntKind.bits .i64) 255).toNat : Int))))), (24, (.d (.i .i64 (IntKind.wrap .i64 ((BitVec.ofInt (IntKind.bits .i64) (IntKind.wrap .i64 ((BitVec.ofInt (IntKind.bits .i64) (Int.fdiv (IntKind.wrap .i64 ((IntKind.wrap .i64 (p0.h * 6364136223846793005)) + 1442695040888963407)) (2 ^ 33)) ^^^ BitVec.ofInt (IntKind.bits .i64) (Int.fdiv (IntKind.wrap .i64 ((IntKind.wrap .i64 (p0.h * 6364136223846793005)) + 1442695040888963407)) (2 ^ 45))).toNat : Int)) &&& BitVec.ofInt (IntKind.bits .i64) 255).toNat : Int))))), (23, (.d (.i .i64 (IntKind.wrap .i64 ((BitVec.ofInt (IntKind.bits .i64) (Int.fdiv (IntKind.wrap .i64 ((IntKind.wrap .i64 (p0.h * 6364136223846793005)) + 1442695040888963407)) (2 ^ 33)) ^^^ BitVec.ofInt (IntKind.bits .i64) (Int.fdiv (IntKind.wrap .i64 ((IntKind.wrap .i64 (p0.h * 6364136223846793005)) + 1442695040888963407)) (2 ^ 45))).toNat : Int))))), (22, (.d (.i .i64 (Int.fdiv (IntKind.wrap .i64 ((IntKind.wrap .i64 (p0.h * 6364136223846793005)) + 1442695040888963407)) (2 ^ 45))))), (21, (.d (.i .i64 (IntKind.wrap .i64 ((IntKind.wrap .i64 (p0.h * 6364136223846793005)) + 1442695040888963407))))), (20, (.ptr 1000000 2)), (19, (.ptr 1000000 0)), (18, (.ptr 1000000 0)), (17, (.d (.i .i64 (Int.fdiv (IntKind.wrap .i64 ((IntKind.wrap .i64 (p0.h * 6364136223846793005)) + 1442695040888963407)) (2 ^ 33))))), (16, (.d (.i .i64 (IntKind.wrap .i64 ((IntKind.wrap .i64 (p0.h * 6364136223846793005)) + 1442695040888963407))))), (15, (.ptr 1000000 2)), (14, (.ptr 1000000 0)), (13, (.ptr 1000000 0)), (12, (.ptr 1000000 2)), (11, (.ptr 1000000 0)), (10, (.d (.i .i64 (IntKind.wrap .i64 ((IntKind.wrap .i64 (p0.h * 6364136223846793005)) + 1442695040888963407))))), (9, (.d (.i .i64 (IntKind.wrap .i64 (p0.h * 6364136223846793005))))), (8, (.d (.i .i64 p0.h))), (7, (.ptr 1000000 2)), (6, (.ptr 1000000 0)), (5, (.ptr 1000000 0)), (4, (.ptr 1000000 0)), (2, (.d (.i .i64 0))), (0, (.ptr 1000000 0))], [(1000000, bGL1Cur (GL1Cur.mk p0.b p0.i (IntKind.wrap .i64 ((IntKind.wrap .i64 (p0.h * 6364136223846793005)) + 1442695040888963407))))]⟩) (by kernel_rfl) ?_
    refine dnil_in (by kernel_rfl) (by kernel_rfl) ?_
    refine next_in ?_
    refine ops_in ?_
    refine sts_ok 9 (s' := ⟨[(56, (.ptr 1000000 1)), (55, (.ptr 1000000 0)), (54, (.d (.i .i64 (IntKind.wrap .i64 (p0.i + 1))))), (53, (.d (.i .i64 p0.i))), (52, (.ptr 1000000 1)), (51, (.ptr 1000000 0)), (50, (.ptr 1000000 0)), (49, (.ptr 1000000 0)), (3, (.d (.i .i64 (IntKind.wrap .i64 ((BitVec.ofInt (IntKind.bits .i64) (IntKind.wrap .i64 ((IntKind.wrap .i64 ((BitVec.ofInt (IntKind.bits .i64) (IntKind.wrap .i64 ((BitVec.ofInt (IntKind.bits .i64) (Int.fdiv (IntKind.wrap .i64 ((IntKind.wrap .i64 (p0.h * 6364136223846793005)) + 1442695040888963407)) (2 ^ 33)) ^^^ BitVec.ofInt (IntKind.bits .i64) (Int.fdiv (IntKind.wrap .i64 ((IntKind.wrap .i64 (p0.h * 6364136223846793005)) + 1442695040888963407)) (2 ^ 45))).toNat : Int)) &&& BitVec.ofInt (IntKind.bits .i64) 255).toNat : Int)) + (IntKind.wrap .i64 y1))) &&& BitVec.ofInt (IntKind.bits .i64) 255).toNat : Int))))), (48, (.d (.i .i64 (IntKind.wrap .i64 ((BitVec.ofInt (IntKind.bits .i64) (IntKind.wrap .i64 ((IntKind.wrap .i64 ((BitVec.ofInt (IntKind.bits .i64) (IntKind.wrap .i64 ((BitVec.ofInt (IntKind.bits .i64) (Int.fdiv (IntKind.wrap .i64 ((IntKind.wrap .i64 (p0.h * 6364136223846793005)) + 1442695040888963407)) (2 ^ 33)) ^^^ BitVec.ofInt (IntKind.bits .i64) (Int.fdiv (IntKind.wrap .i64 ((IntKind.wrap .i64 (p0.h * 6364136223846793005)) + 1442695040888963407)) (2 ^ 45))).toNat : Int)) &&& BitVec.ofInt (IntKind.bits .i64) 255).toNat : Int)) + (IntKind.wrap .i64 y1))) &&& BitVec.ofInt (IntKind.bits .i64) 255).toNat : Int))))), (47, (.d (.i .i64 (IntKind.wrap .i64 ((IntKind.wrap .i64 ((BitVec.ofInt (IntKind.bits .i64) (IntKind.wrap .i64 ((BitVec.ofInt (IntKind.bits .i64) (Int.fdiv (IntKind.wrap .i64 ((IntKind.wrap .i64 (p0.h * 6364136223846793005)) + 1442695040888963407)) (2 ^ 33)) ^^^ BitVec.ofInt (IntKind.bits .i64) (Int.fdiv (IntKind.wrap .i64 ((IntKind.wrap .i64 (p0.h * 6364136223846793005)) + 1442695040888963407)) (2 ^ 45))).toNat : Int)) &&& BitVec.ofInt (IntKind.bits .i64) 255).toNat : Int)) + (IntKind.wrap .i64 y1)))))), (46, (.d (.i .i64 (IntKind.wrap .i64 y1)))), (45, (.d (.i .u8 y1))), (44, (.rp [(.i .u8 y1)])), (43, (.d (.i .i64 p0.i))), (42, (.ptr 1000000 1)), (41, (.ptr 1000000 0)), (40, (.ptr 1000000 0)), (39, (.d (.sl 1 (p0.b.map cU8)))), (38, (.ptr 1000000 0)), (37, (.ptr 1000000 0)), (36, (.ptr 1000000 0)), (35, (.d (.i .i64 (IntKind.wrap .i64 ((BitVec.ofInt (IntKind.bits .i64) (IntKind.wrap .i64 ((BitVec.ofInt (IntKind.bits .i64) (Int.fdiv (IntKind.wrap .i64 ((IntKind.wrap .i64 (p0.h * 6364136223846793005)) + 1442695040888963407)) (2 ^ 33)) ^^^ BitVec.ofInt (IntKind.bits .i64) (Int.fdiv (IntKind.wrap .i64 ((IntKind.wrap .i64 (p0.h * 6364136223846793005)) + 1442695040888963407)) (2 ^ 45))).toNat : Int)) &&& BitVec.ofInt (IntKind.bits .i64) 255).toNat : Int))))), (34, (.d (.b (decide (p0.i < (p0.b.length : Int)))))), (33, (.d (.i .i64 (p0.b.length : Int)))), (32, (.d (.sl 1 (p0.b.map cU8)))), (31, (.ptr 1000000 0)), (30, (.ptr 1000000 0)), (29, (.ptr 1000000 0)), (28, (.d (.i .i64 p0.i))), (27, (.ptr 1000000 1)), (26, (.ptr 1000000 0)), (25, (.ptr 1000000 0)), (3, (.d (.i .i64 (IntKind.wrap .i64 ((BitVec.ofInt (IntKind.bits .i64) (IntKind.wrap .i64 ((BitVec.ofInt (IntKind.bits .i64) (Int.fdiv (IntKind.wrap .i64 ((IntKind.wrap .i64 (p0.h * 6364136223846793005)) + 1442695040888963407)) (2 ^ 33)) ^^^ BitVec.ofInt (IntKind.bits .i64) (Int.fdiv (IntKind.wrap .i64 ((IntKind.wrap .i64 (p0.h * 6364136223846793005)) + 1442695040888963407)) (2 ^ 45))).toNat : Int)) &&& BitVec.ofInt (IntKind.bits .i64) 255).toNat : Int))))), (24, (.d (.i .i64 (IntKind.wrap .i64 ((BitVec.ofInt (IntKind.bits .i64) (IntKind.wrap .i64 ((BitVec.ofInt (IntKind.bits .i64) (Int.fdiv (IntKind.wrap .i64 ((IntKind.wrap .i64 (p0.h * 6364136223846793005)) + 1442695040888963407)) (2 ^ 33)) ^^^ BitVec.ofInt (IntKind.bits .i64) (Int.fdiv (IntKind.wrap .i64 ((IntKind.wrap .i64 (p0.h * 6364136223846793005)) + 1442695040888963407)) (2 ^ 45))).toNat : Int)) &&& BitVec.ofInt (IntKind.bits .i64) 255).toNat : Int))))), (23, (.d (.i .i64 (IntKind.wrap .i64 ((BitVec.ofInt (IntKind.bits .i64) (Int.fdiv (IntKind.wrap .i64 ((IntKind.wrap .i64 (p0.h * 6364136223846793005)) + 1442695040888963407)) (2 ^ 33)) ^^^ BitVec.ofInt (IntKind.bits .i64) (Int.fdiv (IntKind.wrap .i64 ((IntKind.wrap .i64 (p0.h * 6364136223846793005)) + 1442695040888963407)) (2 ^ 45))).toNat : Int))))), (22, (.d (.i .i64 (Int.fdiv (IntKind.wrap .i64 ((IntKind.wrap .i64 (p0.h * 6364136223846793005)) + 1442695040888963407)) (2 ^ 45))))), (21, (.d (.i .i64 (IntKind.wrap .i64 ((IntKind.wrap .i64 (p0.h * 6364136223846793005)) + 1442695040888963407))))), (20, (.ptr 1000000 2)), (19, (.ptr 1000000 0)), (18, (.ptr 1000000 0)), (17, (.d (.i .i64 (Int.fdiv (IntKind.wrap .i64 ((IntKind.wrap .i64 (p0.h * 6364136223846793005)) + 1442695040888963407)) (2 ^ 33))))), (16, (.d (.i .i64 (IntKind.wrap .i64 ((IntKind.wrap .i64 (p0.h * 6364136223846793005)) + 1442695040888963407))))), (15, (.ptr 1000000 2)), (14, (.ptr 1000000 0)), (13, (.ptr 1000000 0)), (12, (.ptr 1000000 2)), (11, (.ptr 1000000 0)), (10, (.d (.i .i64 (IntKind.wrap .i64 ((IntKind.wrap .i64 (p0.h * 6364136223846793005)) + 1442695040888963407))))), (9, (.d (.i .i64 (IntKind.wrap .i64 (p0.h * 6364136223846793005))))), (8, (.d (.i .i64 p0.h))), (7, (.ptr 1000000 2)), (6, (.ptr 1000000 0)), (5, (.ptr 1000000 0)), (4, (.ptr 1000000 0)), (2, (.d (.i .i64 0))), (0, (.ptr 1000000 0))], [(1000000, bGL1Cur (GL1Cur.mk p0.b (IntKind.wrap .i64 (p0.i + 1)) (IntKind.wrap .i64 ((IntKind.wrap .i64 (p0.h * 6364136223846793005)) + 1442695040888963407))))]⟩) (by kernel_rfl) ?_
    refine nil_in ?_
    exact next_step (s' := stsL1Byte_J0 p0 (IntKind.wrap .i64 ((BitVec.ofInt (IntKind.bits .i64) (IntKind.wrap .i64 ((IntKind.wrap .i64 ((BitVec.ofInt (IntKind.bits .i64) (IntKind.wrap .i64 ((BitVec.ofInt (IntKind.bits .i64) (Int.fdiv (IntKind.wrap .i64 ((IntKind.wrap .i64 (p0.h * 6364136223846793005)) + 1442695040888963407)) (2 ^ 33)) ^^^ BitVec.ofInt (IntKind.bits .i64) (Int.fdiv (IntKind.wrap .i64 ((IntKind.wrap .i64 (p0.h * 6364136223846793005)) + 1442695040888963407)) (2 ^ 45))).toNat : Int)) &&& BitVec.ofInt (IntKind.bits .i64) 255).toNat : Int)) + (IntKind.wrap .i64 y1))) &&& BitVec.ofInt (IntKind.bits .i64) 255).toNat : Int)) (IntKind.wrap .i64 (p0.i + 1))) (wk_ren [] (by kernel_rfl) (er_cons (vr_same (by kernel_rfl) (by kernel_rfl)) (er_nil)) (br_same (by kernel_rfl) (by kernel_rfl) (br_nil))) (OK_sL1Byte_J0 p0 (IntKind.wrap .i64 ((BitVec.ofInt (IntKind.bits .i64) (IntKind.wrap .i64 ((IntKind.wrap .i64 ((BitVec.ofInt (IntKind.bits .i64) (IntKind.wrap .i64 ((BitVec.ofInt (IntKind.bits .i64) (Int.fdiv (IntKind.wrap .i64 ((IntKind.wrap .i64 (p0.h * 6364136223846793005)) + 1442695040888963407)) (2 ^ 33)) ^^^ BitVec.ofInt (IntKind.bits .i64) (Int.fdiv (IntKind.wrap .i64 ((IntKind.wrap .i64 (p0.h * 6364136223846793005)) + 1442695040888963407)) (2 ^ 45))).toNat : Int)) &&& BitVec.ofInt (IntKind.bits .i64) 255).toNat : Int)) + (IntKind.wrap .i64 y1))) &&& BitVec.ofInt (IntKind.bits .i64) 255).toNat : Int)) (IntKind.wrap .i64 (p0.i + 1)) _ h)
  · clear h; intro h
    refine skip_in ?_
    exact next_step (s' := stsL1Byte_J0 p0 (IntKind.wrap .i64 ((BitVec.ofInt (IntKind.bits .i64) (IntKind.wrap .i64 ((BitVec.ofInt (IntKind.bits .i64) (Int.fdiv (IntKind.wrap .i64 ((IntKind.wrap .i64 (p0.h * 6364136223846793005)) + 1442695040888963407)) (2 ^ 33)) ^^^ BitVec.ofInt (IntKind.bits .i64) (Int.fdiv (IntKind.wrap .i64 ((IntKind.wrap .i64 (p0.h * 6364136223846793005)) + 1442695040888963407)) (2 ^ 45))).toNat : Int)) &&& BitVec.ofInt (IntKind.bits .i64) 255).toNat : Int)) p0.i) (wk_ren [] (by kernel_rfl) (er_cons (vr_same (by kernel_rfl) (by kernel_rfl)) (er_nil)) (br_same (by kernel_rfl) (by kernel_rfl) (br_nil))) (OK_sL1Byte_J0 p0 (IntKind.wrap .i64 ((BitVec.ofInt (IntKind.bits .i64) (IntKind.wrap .i64 ((BitVec.ofInt (IntKind.bits .i64) (Int.fdiv (IntKind.wrap .i64 ((IntKind.wrap .i64 (p0.h * 6364136223846793005)) + 1442695040888963407)) (2 ^ 33)) ^^^ BitVec.ofInt (IntKind.bits .i64) (Int.fdiv (IntKind.wrap .i64 ((IntKind.wrap .i64 (p0.h * 6364136223846793005)) + 1442695040888963407)) (2 ^ 45))).toNat : Int)) &&& BitVec.ofInt (IntKind.bits .i64) 255).toNat : Int)) p0.i _ h)
theorem OK_sL1Below (p0 : GL1Cur) (p1 : Int) : FOkB Try.prog 76 [(.ptr 1000000 0), (.d (.i .i64 p1))] [(1000000, bGL1Cur p0)] (fun (y : Int × GL1Cur) => (.d (.i .i64 y.1))) (fun (y : Int × GL1Cur) => [(1000000, bGL1Cur y.2)]) (sL1Below p0 p1) := by
  intro r h
  rw [sL1Below] at h
  refine acalls_of_fn trsL1Below (Nat.le_of_ble_eq_true rfl) (by intro n hn; simp at hn; omega) ?_
  show avc Try.prog acsL1Below (qsL1Below _) ⟨[(0, (.ptr 1000000 0)), (1, (.d (.i .i64 p1)))], [(1000000, bGL1Cur p0)]⟩
  delta acsL1Below
  refine seq_in ?_
  refine ops_in ?_
  refine sts_ok 1 (s' := ⟨[(4, (.d (.i .i64 0))), (0, (.ptr 1000000 0)), (1, (.d (.i .i64 p1)))], [(1000000, bGL1Cur p0)]⟩) (by kernel_rfl) ?_
  refine nil_in ?_
  refine next_in ?_
  refine seq_in ?_
  refine seq_in ?_
  refine ops_in ?_
  refine sts_ok 2 (s' := ⟨[(10, (.d (.b (decide (p1 ≤ 0))))), (9, (.d (.i .i64 p1))), (4, (.d (.i .i64 0))), (0, (.ptr 1000000 0)), (1, (.d (.i .i64 p1)))], [(1000000, bGL1Cur p0)]⟩) (by kernel_rfl) ?_
  refine nil_in ?_
  refine next_in ?_
  refine cond_step h (by kernel_rfl) ?_ ?_
  · clear h; intro h
    refine seq_in ?_
    refine ops_in ?_
    refine sts_ok 1 (s' := ⟨[(4, (.d (.i .i64 0))), (10, (.d (.b (decide (p1 ≤ 0))))), (9, (.d (.i .i64 p1))), (4, (.d (.i .i64 0))), (0, (.ptr 1000000 0)), (1, (.d (.i .i64 p1)))], [(1000000, bGL1Cur p0)]⟩) (by kernel_rfl) ?_
    refine nil_in ?_
    refine next_in ?_
    refine ret_in ?_
    refine thenK_ret ?_
    have h := Option.some.inj h; subst h
    exact ret1_step (v := (.d (.i .i64 0))) (by kernel_rfl) (by kernel_rfl) ⟨by kernel_rfl, by kernel_rfl, trivial⟩
  · clear h; intro h
    refine skip_in ?_
    refine next_in ?_
    refine seq_in ?_
    refine seq_in ?_
    refine ops_in ?_
    refine sts_ok 2 (s' := ⟨[(12, (.d (.b (decide (p1 ≤ 256))))), (11, (.d (.i .i64 p1))), (10, (.d (.b (decide (p1 ≤ 0))))), (9, (.d (.i .i64 p1))), (4, (.d (.i .i64 0))), (0, (.ptr 1000000 0)), (1, (.d (.i .i64 p1)))], [(1000000, bGL1Cur p0)]⟩) (by kernel_rfl) ?_
    refine nil_in ?_
    refine next_in ?_
    refine cond_step h (by kernel_rfl) ?_ ?_
    · clear h; intro h
      refine seq_in ?_
      refine ops_in ?_
      refine sts_ok 1 (s' := ⟨[(13, (.ptr 1000000 0)), (12, (.d (.b (decide (p1 ≤ 256))))), (11, (.d (.i .i64 p1))), (10, (.d (.b (decide (p1 ≤ 0))))), (9, (.d (.i .i64 p1))), (4, (.d (.i .i64 0))), (0, (.ptr 1000000 0)), (1, (.d (.i .i64 p1)))], [(1000000, bGL1Cur p0)]⟩) (by kernel_rfl) ?_
      refine callg_step ⟨[(1000000, 1000000)], [], [], [], [], [], [], []⟩ (m := sL1Byte p0) (S' := fun (y : Int × GL1Cur) => ⟨[(14, (.d (.i .i64 y.1))), (13, (.ptr 1000000 0)), (12, (.d (.b (decide (p1 ≤ 256))))), (11, (.d (.i .i64 p1))), (10, (.d (.b (decide (p1 ≤ 0))))), (9, (.d (.i .i64 p1))), (4, (.d (.i .i64 0))), (0, (.ptr 1000000 0)), (1, (.d (.i .i64 p1)))], [(1000000, bGL1Cur y.2)]⟩) h (OK_sL1Byte p0) (by kernel_rfl) (by kernel_rfl) (by kernel_rfl) (by kernel_rfl) (fun y => by kernel_rfl) (fun y => by kernel_rfl) ?_
      clear h; intro y1 h
      refine sts_ok 1 (s' := ⟨[(15, (.d (.i .i64 p1))), (14, (.d (.i .i64 y1.1))), (13, (.ptr 1000000 0)), (12, (.d (.b (decide (p1 ≤ 256))))), (11, (.d (.i .i64 p1))), (10, (.d (.b (decide (p1 ≤ 0))))), (9, (.d (.i .i64 p1))), (4, (.d (.i .i64 0))), (0, (.ptr 1000000 0)), (1, (.d (.i .i64 p1)))], [(1000000, bGL1Cur y1.2)]⟩) (by kernel_rfl) ?_
      refine v_step (m := remG y1.1 p1) (v' := fun y => (.d (.i .i64 y))) h rfl rfl (fun y hy => vop_rem (k := .i64) (a := y1.1) (b := p1) hy (by kernel_rfl) (by kernel_rfl) (by kernel_rfl)) ?_
      clear h; intro y2 h
      refine sts_ok 1 (s' := ⟨[(4, (.d (.i .i64 y2))), (16, (.d (.i .i64 y2))), (15, (.d (.i .i64 p1))), (14, (.d (.i .i64 y1.1))), (13, (.ptr 1000000 0)), (12, (.d (.b (decide (p1 ≤ 256))))), (11, (.d (.i .i64 p1))), (10, (.d (.b (decide (p1 ≤ 0))))), (9, (.d (.i .i64 p1))), (4, (.d (.i .i64 0))), (0, (.ptr 1000000 0)), (1, (.d (.i .i64 p1)))], [(1000000, bGL1Cur y1.2)]⟩) (by kernel_rfl) ?_
      refine nil_in ?_
      refine next_in ?_
      refine ret_in ?_
      refine thenK_ret ?_
      have h := Option.some.inj h; subst h
      exact ret1_step (v := (.d (.i .i64 y2))) (by kernel_rfl) (by kernel_rfl) ⟨by kernel_rfl, by kernel_rfl, trivial⟩
    · clear h; intro h
      refine skip_in ?_
      refine next_in ?_
      refine seq_in ?_
      refine ops_in ?_
      refine sts_ok 1 (s' := ⟨[(17, (.ptr 1000000 0)), (12, (.d (.b (decide (p1 ≤ 256))))), (11, (.d (.i .i64 p1))), (10, (.d (.b (decide (p1 ≤ 0))))), (9, (.d (.i .i64 p1))), (4, (.d (.i .i64 0))), (0, (.ptr 1000000 0)), (1, (.d (.i .i64 p1)))], [(1000000, bGL1Cur p0)]⟩) (by kernel_rfl) ?_
      refine callg_step ⟨[(1000000, 1000000)], [], [], [], [], [], [], []⟩ (m := sL1Byte p0) (S' := fun (y : Int × GL1Cur) => ⟨[(18, (.d (.i .i64 y.1))), (17, (.ptr 1000000 0)), (12, (.d (.b (decide (p1 ≤ 256))))), (11, (.d (.i .i64 p1))), (10, (.d (.b (decide (p1 ≤ 0))))), (9, (.d (.i .i64 p1))), (4, (.d (.i .i64 0))), (0, (.ptr 1000000 0)), (1, (.d (.i .i64 p1)))], [(1000000, bGL1Cur y.2)]⟩) h (OK_sL1Byte p0) (by kernel_rfl) (by kernel_rfl) (by kernel_rfl) (by kernel_rfl) (fun y => by kernel_rfl) (fun y => by kernel_rfl) ?_
      clear h; intro y3 h
      refine sts_ok 1 (s' := ⟨[(5, (.d (.i .i64 y3.1))), (18, (.d (.i .i64 y3.1))), (17, (.ptr 1000000 0)), (12, (.d (.b (decide (p1 ≤ 256))))), (11, (.d (.i .i64 p1))), (10, (.d (.b (decide (p1 ≤ 0))))), (9, (.d (.i .i64 p1))), (4, (.d (.i .i64 0))), (0, (.ptr 1000000 0)), (1, (.d (.i .i64 p1)))], [(1000000, bGL1Cur y3.2)]⟩) (by kernel_rfl) ?_
      refine nil_in ?_
      refine next_in ?_
      refine seq_in ?_
      refine ops_in ?_
      refine sts_ok 1 (s' := ⟨[(19, (.ptr 1000000 0)), (5, (.d (.i .i64 y3.1))), (18, (.d (.i .i64 y3.1))), (17, (.ptr 1000000 0)), (12, (.d (.b (decide (p1 ≤ 256))))), (11, (.d (.i .i64 p1))), (10, (.d (.b (decide (p1 ≤ 0))))), (9, (.d (.i .i64 p1))), (4, (.d (.i .i64 0))), (0, (.ptr 1000000 0)), (1, (.d (.i .i64 p1)))], [(1000000, bGL1Cur y3.2)]⟩) (by kernel_rfl) ?_
      refine callg_step ⟨[(1000000, 1000000)], [], [], [], [], [], [], []⟩ (m := sL1Byte y3.2) (S' := fun (y : Int × GL1Cur) => ⟨[(20, (.d (.i .i64 y.1))), (19, (.ptr 1000000 0)), (5, (.d (.i .i64 y3.1))), (18, (.d (.i .i64 y3.1))), (17, (.ptr 1000000 0)), (12, (.d (.b (decide (p1 ≤ 256))))), (11, (.d (.i .i64 p1))), (10, (.d (.b (decide (p1 ≤ 0))))), (9, (.d (.i .i64 p1))), (4, (.d (.i .i64 0))), (0, (.ptr 1000000 0)), (1, (.d (.i .i64 p1)))], [(1000000, bGL1Cur y.2)]⟩) h (OK_sL1Byte y3.2) (by kernel_rfl) (by kernel_rfl) (by kernel_rfl) (by kernel_rfl) (fun y => by kernel_rfl) (fun y => by kernel_rfl) ?_
      clear h; intro y4 h
      refine sts_ok 1 (s' := ⟨[(6, (.d (.i .i64 y4.1))), (20, (.d (.i .i64 y4.1))), (19, (.ptr 1000000 0)), (5, (.d (.i .i64 y3.1))), (18, (.d (.i .i64 y3.1))), (17, (.ptr 1000000 0)), (12, (.d (.b (decide (p1 ≤ 256))))), (11, (.d (.i .i64 p1))), (10, (.d (.b (decide (p1 ≤ 0))))), (9, (.d (.i .i64 p1))), (4, (.d (.i .i64 0))), (0, (.ptr 1000000 0)), (1, (.d (.i .i64 p1)))], [(1000000, bGL1Cur y4.2)]⟩) (by kernel_rfl) ?_
      refine nil_in ?_
      refine next_in ?_
      refine seq_in ?_
      refine ops_in ?_
      refine sts_ok 1 (s' := ⟨[(21, (.ptr 1000000 0)), (6, (.d (.i .i64 y4.1))), (20, (.d (.i .i64 y4.1))), (19, (.ptr 1000000 0)), (5, (.d (.i .i64 y3.1))), (18, (.d (.i .i64 y3.1))), (17, (.ptr 1000000 0)), (12, (.d (.b (decide (p1 ≤ 256))))), (11, (.d (.i .i64 p1))), (10, (.d (.b (decide (p1 ≤ 0))))), (9, (.d (.i .i64 p1))), (4, (.d (.i .i64 0))), (0, (.ptr 1000000 0)), (1, (.d (.i .i64 p1)))], [(1000000, bGL1Cur y4.2)]⟩) (by kernel_rfl) ?_
      refine callg_step ⟨[(1000000, 1000000)], [], [], [], [], [], [], []⟩ (m := sL1Byte y4.2) (S' := fun (y : Int × GL1Cur) => ⟨[(22, (.d (.i .i64 y.1))), (21, (.ptr 1000000 0)), (6, (.d (.i .i64 y4.1))), (20, (.d (.i .i64 y4.1))), (19, (.ptr 1000000 0)), (5, (.d (.i .i64 y3.1))), (18, (.d (.i .i64 y3.1))), (17, (.ptr 1000000 0)), (12, (.d (.b (decide (p1 ≤ 256))))), (11, (.d (.i .i64 p1))), (10, (.d (.b (decide (p1 ≤ 0))))), (9, (.d (.i .i64 p1))), (4, (.d (.i .i64 0))), (0, (.ptr 1000000 0)), (1, (.d (.i .i64 p1)))], [(1000000, bGL1Cur y.2)]⟩) h (OK_sL1Byte y4.2) (by kernel_rfl) (by kernel_rfl) (by kernel_rfl) (by kernel_rfl) (fun y => by kernel_rfl) (fun y => by kernel_rfl) ?_
      clear h; intro y5 h
      refine sts_ok 1 (s' := ⟨[(7, (.d (.i .i64 y5.1))), (22, (.d (.i .i64 y5.1))), (21, (.ptr 1000000 0)), (6, (.d (.i .i64 y4.1))), (20, (.d (.i .i64 y4.1))), (19, (.ptr 1000000 0)), (5, (.d (.i .i64 y3.1))), (18, (.d (.i .i64 y3.1))), (17, (.ptr 1000000 0)), (12, (.d (.b (decide (p1 ≤ 256))))), (11, (.d (.i .i64 p1))), (10, (.d (.b (decide (p1 ≤ 0))))), (9, (.d (.i .i64 p1))), (4, (.d (.i .i64 0))), (0, (.ptr 1000000 0)), (1, (.d (.i .i64 p1)))], [(1000000, bGL1Cur y5.2)]⟩) (by kernel_rfl) ?_
      refine nil_in ?_
      refine next_in ?_
      refine seq_in ?_
      refine ops_in ?_
      refine sts_ok 1 (s' := ⟨[(23, (.ptr 1000000 0)), (7, (.d (.i .i64 y5.1))), (22, (.d (.i .i64 y5.1))), (21, (.ptr 1000000 0)), (6, (.d (.i .i64 y4.1))), (20, (.d (.i .i64 y4.1))), (19, (.ptr 1000000 0)), (5, (.d (.i .i64 y3.1))), (18, (.d (.i .i64 y3.1))), (17, (.ptr 1000000 0)), (12, (.d (.b (decide (p1 ≤ 256))))), (11, (.d (.i .i64 p1))), (10, (.d (.b (decide (p1 ≤ 0))))), (9, (.d (.i .i64 p1))), (4, (.d (.i .i64 0))), (0, (.ptr 1000000 0)), (1, (.d (.i .i64 p1)))], [(1000000, bGL1Cur y5.2)]⟩) (by kernel_rfl) ?_
      refine callg_step ⟨[(1000000, 1000000)], [], [], [], [], [], [], []⟩ (m := sL1Byte y5.2) (S' := fun (y : Int × GL1Cur) => ⟨[(24, (.d (.i .i64 y.1))), (23, (.ptr 1000000 0)), (7, (.d (.i .i64 y5.1))), (22, (.d (.i .i64 y5.1))), (21, (.ptr 1000000 0)), (6, (.d (.i .i64 y4.1))), (20, (.d (.i .i64 y4.1))), (19, (.ptr 1000000 0)), (5, (.d (.i .i64 y3.1))), (18, (.d (.i .i64 y3.1))), (17, (.ptr 1000000 0)), (12, (.d (.b (decide (p1 ≤ 256))))), (11, (.d (.i .i64 p1))), (10, (.d (.b (decide (p1 ≤ 0))))), (9, (.d (.i .i64 p1))), (4, (.d (.i .i64 0))), (0, (.ptr 1000000 0)), (1, (.d (.i .i64 p1)))], [(1000000, bGL1Cur y.2)]⟩) h (OK_sL1Byte y5.2) (by kernel_rfl) (by kernel_rfl) (by kernel_rfl) (by kernel_rfl) (fun y => by kernel_rfl) (fun y => by kernel_rfl) ?_
      clear h; intro y6 h
      refine sts_ok 1 (s' := ⟨[(8, (.d (.i .i64 y6.1))), (24, (.d (.i .i64 y6.1))), (23, (.ptr 1000000 0)), (7, (.d (.i .i64 y5.1))), (22, (.d (.i .i64 y5.1))), (21, (.ptr 1000000 0)), (6, (.d (.i .i64 y4.1))), (20, (.d (.i .i64 y4.1))), (19, (.ptr 1000000 0)), (5, (.d (.i .i64 y3.1))), (18, (.d (.i .i64 y3.1))), (17, (.ptr 1000000 0)), (12, (.d (.b (decide (p1 ≤ 256))))), (11, (.d (.i .i64 p1))), (10, (.d (.b (decide (p1 ≤ 0))))), (9, (.d (.i .i64 p1))), (4, (.d (.i .i64 0))), (0, (.ptr 1000000 0)), (1, (.d (.i .i64 p1)))], [(1000000, bGL1Cur y6.2)]⟩) (by kernel_rfl) ?_
      refine nil_in ?_
      refine next_in ?_
      refine seq_in ?_
      refine ops_in ?_
      refine sts_ok 11 (s' := ⟨[(35, (.d (.i .i64 p1))), (34, (.d (.i .i64 (IntKind.wrap .i64 ((IntKind.wrap .i64 ((IntKind.wrap .i64 ((IntKind.wrap .i64 (y3.1 * 16777216)) + (IntKind.wrap .i64 (y4.1 * 65536)))) + (IntKind.wrap .i64 (y5.1 * 256)))) + y6.1))))), (33, (.d (.i .i64 y6.1))), (32, (.d (.i .i64 (IntKind.wrap .i64 ((IntKind.wrap .i64 ((IntKind.wrap .i64 (y3.1 * 16777216)) + (IntKind.wrap .i64 (y4.1 * 65536)))) + (IntKind.wrap .i64 (y5.1 * 256))))))), (31, (.d (.i .i64 (IntKind.wrap .i64 (y5.1 * 256))))), (30, (.d (.i .i64 y5.1))), (29, (.d (.i .i64 (IntKind.wrap .i64 ((IntKind.wrap .i64 (y3.1 * 16777216)) + (IntKind.wrap .i64 (y4.1 * 65536))))))), (28, (.d (.i .i64 (IntKind.wrap .i64 (y4.1 * 65536))))), (27, (.d (.i .i64 y4.1))), (26, (.d (.i .i64 (IntKind.wrap .i64 (y3.1 * 16777216))))), (25, (.d (.i .i64 y3.1))), (8, (.d (.i .i64 y6.1))), (24, (.d (.i .i64 y6.1))), (23, (.ptr 1000000 0)), (7, (.d (.i .i64 y5.1))), (22, (.d (.i .i64 y5.1))), (21, (.ptr 1000000 0)), (6, (.d (.i .i64 y4.1))), (20, (.d (.i .i64 y4.1))), (19, (.ptr 1000000 0)), (5, (.d (.i .i64 y3.1))), (18, (.d (.i .i64 y3.1))), (17, (.ptr 1000000 0)), (12, (.d (.b (decide (p1 ≤ 256))))), (11, (.d (.i .i64 p1))), (10, (.d (.b (decide (p1 ≤ 0))))), (9, (.d (.i .i64 p1))), (4, (.d (.i .i64 0))), (0, (.ptr 1000000 0)), (1, (.d (.i .i64 p1)))], [(1000000, bGL1Cur y6.2)]⟩) (by kernel_rfl) ?_
      refine v_step (m := remG (IntKind.wrap .i64 ((IntKind.wrap .i64 ((IntKind.wrap .i64 ((IntKind.wrap .i64 (y3.1 * 16777216)) + (IntKind.wrap .i64 (y4.1 * 65536)))) + (IntKind.wrap .i64 (y5.1 * 256)))) + y6.1)) p1) (v' := fun y => (.d (.i .i64 y))) h rfl rfl (fun y hy => vop_rem (k := .i64) (a := (IntKind.wrap .i64 ((IntKind.wrap .i64 ((IntKind.wrap .i64 ((IntKind.wrap .i64 (y3.1 * 16777216)) + (IntKind.wrap .i64 (y4.1 * 65536)))) + (IntKind.wrap .i64 (y5.1 * 256)))) + y6.1))) (b := p1) hy (by kernel_rfl) (by kernel_rfl) (by kernel_rfl)) ?_
      clear h; intro y7 h
      refine sts_ok 1 (s' := ⟨[(4, (.d (.i .i64 y7))), (36, (.d (.i .i64 y7))), (35, (.d (.i .i64 p1))), (34, (.d (.i .i64 (IntKind.wrap .i64 ((IntKind.wrap .i64 ((IntKind.wrap .i64 ((IntKind.wrap .i64 (y3.1 * 16777216)) + (IntKind.wrap .i64 (y4.1 * 65536)))) + (IntKind.wrap .i64 (y5.1 * 256)))) + y6.1))))), (33, (.d (.i .i64 y6.1))), (32, (.d (.i .i64 (IntKind.wrap .i64 ((IntKind.wrap .i64 ((IntKind.wrap .i64 (y3.1 * 16777216)) + (IntKind.wrap .i64 (y4.1 * 65536)))) + (IntKind.wrap .i64 (y5.1 * 256))))))), (31, (.d (.i .i64 (IntKind.wrap .i64 (y5.1 * 256))))), (30, (.d (.i .i64 y5.1))), (29, (.d (.i .i64 (IntKind.wrap .i64 ((IntKind.wrap .i64 (y3.1 * 16777216)) + (IntKind.wrap .i64 (y4.1 * 65536))))))), (28, (.d (.i .i64 (IntKind.wrap .i64 (y4.1 * 65536))))), (27, (.d (.i .i64 y4.1))), (26, (.d (.i .i64 (IntKind.wrap .i64 (y3.1 * 16777216))))), (25, (.d (.i .i64 y3.1))), (8, (.d (.i .i64 y6.1))), (24, (.d (.i .i64 y6.1))), (23, (.ptr 1000000 0)), (7, (.d (.i .i64 y5.1))), (22, (.d (.i .i64 y5.1))), (21, (.ptr 1000000 0)), (6, (.d (.i .i64 y4.1))), (20, (.d (.i .i64 y4.1))), (19, (.ptr 1000000 0)), (5, (.d (.i .i64 y3.1))), (18, (.d (.i .i64 y3.1))), (17, (.ptr 1000000 0)), (12, (.d (.b (decide (p1 ≤ 256))))), (11, (.d (.i .i64 p1))), (10, (.d (.b (decide (p1 ≤ 0))))), (9, (.d (.i .i64 p1))), (4, (.d (.i .i64 0))), (0, (.ptr 1000000 0)), (1, (.d (.i .i64 p1)))], [(1000000, bGL1Cur y6.2)]⟩) (by kernel_rfl) ?_
      refine nil_in ?_
      refine next_in ?_
      refine ret_in ?_
      have h := Option.some.inj h; subst h
      exact ret1_step (v := (.d (.i .i64 y7))) (by kernel_rfl) (by kernel_rfl) ⟨by kernel_rfl, by kernel_rfl, trivial⟩
theorem OKs_sL1New_L0 (p0 : (List Int)) : (∀ (x3 : Int) (x4 : Int) (r : GL1Cur), sL1New_L0 p0 x3 x4 = some r → avc Try.prog acsL1New_L0 (qsL1New_1 r) (stsL1New_L0 p0 x3 x4)) := by
  refine sL1New_L0.partial_correctness p0 (fun x3 x4 r => avc Try.prog acsL1New_L0 (qsL1New_1 r) (stsL1New_L0 p0 x3 x4)) ?_
  · intro F_sL1New_L0 OK_sL1New_L0 x3 x4 r h
    delta acsL1New_L0
    refine loop_unroll ?_
    refine seq_in ?_
    refine seq_in ?_
    refine ops_in ?_
    refine sts_ok 2 (s' := ⟨(9, (.d (.sl 1 (p0.map cU8)))) :: (8, (.d (.i .i64 x4))) :: (stsL1New_L0 p0 x3 x4).env, (stsL1New_L0 p0 x3 x4).bx⟩) (by kernel_rfl) ?_
    refine p_step (v' := (.d (.i .i64 (p0.length : Int)))) rfl rfl (vop_len (sz := 1) (l := p0) (f := cU8) (by kernel_rfl) (by kernel_rfl)) ?_
    refine sts_ok 2 (s' := ⟨(12, (.d (.b (decide (x4 < (p0.length : Int)))))) :: (11, (.d (.b (decide (x4 < (p0.length : Int)))))) :: (10, (.d (.i .i64 (p0.length : Int)))) :: (9, (.d (.sl 1 (p0.map cU8)))) :: (8, (.d (.i .i64 x4))) :: (stsL1New_L0 p0 x3 x4).env, (stsL1New_L0 p0 x3 x4).bx⟩) (by kernel_rfl) ?_
    refine gp_step (p := true) (b := (decide (x4 < (p0.length : Int)))) (v' := (.d (.i .i64 x4))) (by kernel_rfl) rfl rfl (fun hc => vop_val1 (by kernel_rfl) (by kernel_rfl)) ?_
    refine gp_step (p := true) (b := (decide (x4 < (p0.length : Int)))) (v' := (.d (.b (decide (x4 < 4000))))) (by kernel_rfl) rfl rfl (fun hc => vop_val1 (Eq.trans (b := ([(true && ((decide (x4 < (p0.length : Int))) == true))] : List Bool).all id) (by kernel_rfl) (all_c hc rfl)) (by kernel_rfl)) ?_
    refine p_step (v' := (.d (.b (if (decide (x4 < (p0.length : Int))) = true then (decide (x4 < 4000)) else false)))) rfl rfl (vop_pick (b := (decide (x4 < (p0.length : Int)))) (p := (true && ((decide (x4 < (p0.length : Int))) == true))) (u := (decide (x4 < 4000))) (q := true) (v := false) (by kernel_rfl) (by kernel_rfl) (by kernel_rfl) (by kernel_rfl) (fun hb => gc_t rfl hb) (fun _ => rfl)) ?_
    refine nil_in ?_
    refine next_in ?_
    refine cond_step h (by kernel_rfl) ?_ ?_
    · clear h; intro h
      refine skip_in ?_
      refine next_in ?_
      refine seq_in ?_
      refine block_in ?_
      refine ops_in ?_
      refine sts_ok 4 (s' := ⟨(21, (.d (.i .i64 x4))) :: (20, (.d (.sl 1 (p0.map cU8)))) :: (19, (.d (.i .i64 (IntKind.wrap .i64 (x3 * 131))))) :: (18, (.d (.i .i64 x3))) :: (15, (.d (.b (if (decide (x4 < (p0.length : Int))) = true then (decide (x4 < 4000)) else false)))) :: (14, (.ite (true && ((decide (x4 < (p0.length : Int))) == true)) (.d (.b (decide (x4 < 4000)))))) :: (13, (.ite (true && ((decide (x4 < (p0.length : Int))) == true)) (.d (.i .i64 x4)))) :: (12, (.d (.b (decide (x4 < (p0.length : Int)))))) :: (11, (.d (.b (decide (x4 < (p0.length : Int)))))) :: (10, (.d (.i .i64 (p0.length : Int)))) :: (9, (.d (.sl 1 (p0.map cU8)))) :: (8, (.d (.i .i64 x4))) :: (stsL1New_L0 p0 x3 x4).env, (stsL1New_L0 p0 x3 x4).bx⟩) (by kernel_rfl) ?_
      refine v_step (m := idx p0 x4) (v' := fun y => (.rp [(.i .u8 y)])) h rfl rfl (fun y hy => vop_ia (l := p0) (f := cU8) (g := cU8) (k := .i64) hy (fun _ => rfl) (by kernel_rfl) (by kernel_rfl) (by kernel_rfl)) ?_
      clear h; intro y1 h
      refine sts_ok 6 (s' := ⟨(3, (.d (.i .i64 (IntKind.wrap .i64 ((BitVec.ofInt (IntKind.bits .i64) (IntKind.wrap .i64 ((IntKind.wrap .i64 ((IntKind.wrap .i64 (x3 * 131)) + (IntKind.wrap .i64 y1))) + 7)) &&& BitVec.ofInt (IntKind.bits .i64) 1073741823).toNat : Int))))) :: (27, (.d (.i .i64 (IntKind.wrap .i64 ((BitVec.ofInt (IntKind.bits .i64) (IntKind.wrap .i64 ((IntKind.wrap .i64 ((IntKind.wrap .i64 (x3 * 131)) + (IntKind.wrap .i64 y1))) + 7)) &&& BitVec.ofInt (IntKind.bits .i64) 1073741823).toNat : Int))))) :: (26, (.d (.i .i64 (IntKind.wrap .i64 ((IntKind.wrap .i64 ((IntKind.wrap .i64 (x3 * 131)) + (IntKind.wrap .i64 y1))) + 7))))) :: (25, (.d (.i .i64 (IntKind.wrap .i64 ((IntKind.wrap .i64 (x3 * 131)) + (IntKind.wrap .i64 y1)))))) :: (24, (.d (.i .i64 (IntKind.wrap .i64 y1)))) :: (23, (.d (.i .u8 y1))) :: (22, (.rp [(.i .u8 y1)])) :: (21, (.d (.i .i64 x4))) :: (20, (.d (.sl 1 (p0.map cU8)))) :: (19, (.d (.i .i64 (IntKind.wrap .i64 (x3 * 131))))) :: (18, (.d (.i .i64 x3))) :: (15, (.d (.b (if (decide (x4 < (p0.length : Int))) = true then (decide (x4 < 4000)) else false)))) :: (14, (.ite (true && ((decide (x4 < (p0.length : Int))) == true)) (.d (.b (decide (x4 < 4000)))))) :: (13, (.ite (true && ((decide (x4 < (p0.length : Int))) == true)) (.d (.i .i64 x4)))) :: (12, (.d (.b (decide (x4 < (p0.length : Int)))))) :: (11, (.d (.b (decide (x4 < (p0.length : Int)))))) :: (10, (.d (.i .i64 (p0.length : Int)))) :: (9, (.d (.sl 1 (p0.map cU8)))) :: (8, (.d (.i .i64 x4))) :: (stsL1New_L0 p0 x3 x4).env, (stsL1New_L0 p0 x3 x4).bx⟩) (by kernel_rfl) ?_
      refine nil_in ?_
      refine blockK_norm ?_
      refine next_in ?_
      refine ops_in ?_
      refine sts_ok 3 (s' := ⟨(4, (.d (.i .i64 (IntKind.wrap .i64 (x4 + 1))))) :: (17, (.d (.i .i64 (IntKind.wrap .i64 (x4 + 1))))) :: (16, (.d (.i .i64 x4))) :: (3, (.d (.i .i64 (IntKind.wrap .i64 ((BitVec.ofInt (IntKind.bits .i64) (IntKind.wrap .i64 ((IntKind.wrap .i64 ((IntKind.wrap .i64 (x3 * 131)) + (IntKind.wrap .i64 y1))) + 7)) &&& BitVec.ofInt (IntKind.bits .i64) 1073741823).toNat : Int))))) :: (27, (.d (.i .i64 (IntKind.wrap .i64 ((BitVec.ofInt (IntKind.bits .i64) (IntKind.wrap .i64 ((IntKind.wrap .i64 ((IntKind.wrap .i64 (x3 * 131)) + (IntKind.wrap .i64 y1))) + 7)) &&& BitVec.ofInt (IntKind.bits .i64) 1073741823).toNat : Int))))) :: (26, (.d (.i .i64 (IntKind.wrap .i64 ((IntKind.wrap .i64 ((IntKind.wrap .i64 (x3 * 131)) + (IntKind.wrap .i64 y1))) + 7))))) :: (25, (.d (.i .i64 (IntKind.wrap .i64 ((IntKind.wrap .i64 (x3 * 131)) + (IntKind.wrap .i64 y1)))))) :: (24, (.d (.i .i64 (IntKind.wrap .i64 y1)))) :: (23, (.d (.i .u8 y1))) :: (22, (.rp [(.i .u8 y1)])) :: (21, (.d (.i .i64 x4))) :: (20, (.d (.sl 1 (p0.map cU8)))) :: (19, (.d (.i .i64 (IntKind.wrap .i64 (x3 * 131))))) :: (18, (.d (.i .i64 x3))) :: (15, (.d (.b (if (decide (x4 < (p0.length : Int))) = true then (decide (x4 < 4000)) else false)))) :: (14, (.ite (true && ((decide (x4 < (p0.length : Int))) == true)) (.d (.b (decide (x4 < 4000)))))) :: (13, (.ite (true && ((decide (x4 < (p0.length : Int))) == true)) (.d (.i .i64 x4)))) :: (12, (.d (.b (decide (x4 < (p0.length : Int)))))) :: (11, (.d (.b (decide (x4 < (p0.length : Int)))))) :: (10, (.d (.i .i64 (p0.length : Int)))) :: (9, (.d (.sl 1 (p0.map cU8)))) :: (8, (.d (.i .i64 x4))) :: (stsL1New_L0 p0 x3 x4).env, (stsL1New_L0 p0 x3 x4).bx⟩) (by kernel_rfl) ?_
      refine nil_in ?_
      exact loop_back (s' := stsL1New_L0 p0 (IntKind.wrap .i64 ((BitVec.ofInt (IntKind.bits .i64) (IntKind.wrap .i64 ((IntKind.wrap .i64 ((IntKind.wrap .i64 (x3 * 131)) + (IntKind.wrap .i64 y1))) + 7)) &&& BitVec.ofInt (IntKind.bits .i64) 1073741823).toNat : Int)) (IntKind.wrap .i64 (x4 + 1))) (wk_ren [] (by kernel_rfl) (er_cons (vr_same (by kernel_rfl) (by kernel_rfl)) (er_cons (vr_same (by kernel_rfl) (by kernel_rfl)) (er_cons (vr_same (by kernel_rfl) (by kernel_rfl)) (er_nil)))) (br_nil)) (OK_sL1New_L0 (IntKind.wrap .i64 ((BitVec.ofInt (IntKind.bits .i64) (IntKind.wrap .i64 ((IntKind.wrap .i64 ((IntKind.wrap .i64 (x3 * 131)) + (IntKind.wrap .i64 y1))) + 7)) &&& BitVec.ofInt (IntKind.bits .i64) 1073741823).toNat : Int)) (IntKind.wrap .i64 (x4 + 1)) _ h)
    · clear h; intro h
      refine exit_in ?_
      refine thenK_exit ?_
      refine thenK_exit ?_
      refine blockK_here ?_
      refine next_in ?_
      refine seq_in ?_
      refine ops_in ?_
      refine sts_ok 5 (s' := ⟨(2, (.ptr 31 0)) :: (31, (.ptr 31 0)) :: (30, (vGL1Cur (GL1Cur.mk p0 0 x3))) :: (29, (.d (.i .i64 x3))) :: (28, (.d (.sl 1 (p0.map cU8)))) :: (15, (.d (.b (if (decide (x4 < (p0.length : Int))) = true then (decide (x4 < 4000)) else false)))) :: (14, (.ite (true && ((decide (x4 < (p0.length : Int))) == true)) (.d (.b (decide (x4 < 4000)))))) :: (13, (.ite (true && ((decide (x4 < (p0.length : Int))) == true)) (.d (.i .i64 x4)))) :: (12, (.d (.b (decide (x4 < (p0.length : Int)))))) :: (11, (.d (.b (decide (x4 < (p0.length : Int)))))) :: (10, (.d (.i .i64 (p0.length : Int)))) :: (9, (.d (.sl 1 (p0.map cU8)))) :: (8, (.d (.i .i64 x4))) :: (stsL1New_L0 p0 x3 x4).env, [(31, bGL1Cur (GL1Cur.mk p0 0 x3))]⟩) (by kernel_rfl) ?_
      refine nil_in ?_
      refine next_in ?_
      refine ret_in ?_
      have h := Option.some.inj h; subst h
      exact ret1_step (v := (.ptr 31 0)) (by kernel_rfl) (by kernel_rfl) ⟨by kernel_rfl, by kernel_rfl, trivial⟩
theorem OK_sL1New_L0 (p0 : (List Int)) (x3 : Int) (x4 : Int) (r : GL1Cur) (h : sL1New_L0 p0 x3 x4 = some r) : avc Try.prog acsL1New_L0 (qsL1New_1 r) (stsL1New_L0 p0 x3 x4) := (OKs_sL1New_L0 p0) x3 x4 r h
theorem OK_sL1New (p0 : (List Int)) : FOkB Try.prog 75 [(.d (.sl 1 (p0.map cU8)))] [] (fun (y : GL1Cur) => (.ptr 31 0)) (fun (y : GL1Cur) => [(31, bGL1Cur y)]) (sL1New p0) := by
  intro r h
  rw [sL1New] at h
  refine acalls_of_fn trsL1New (Nat.le_of_ble_eq_true rfl) (by simp) ?_
  show avc Try.prog acsL1New (qsL1New _) ⟨[(0, (.d (.sl 1 (p0.map cU8))))], []⟩
  delta acsL1New
  refine seq_in ?_
  refine ops_in ?_
  refine sts_ok 1 (s' := ⟨[(2, .np), (0, (.d (.sl 1 (p0.map cU8))))], []⟩) (by kernel_rfl) ?_
  refine nil_in ?_
  refine next_in ?_
  refine seq_in ?_
  refine ops_in ?_
  refine sts_ok 1 (s' := ⟨[(5, (.d (.sl 1 (p0.map cU8)))), (2, .np), (0, (.d (.sl 1 (p0.map cU8))))], []⟩) (by kernel_rfl) ?_
  refine p_step (v' := (.d (.i .i64 (p0.length : Int)))) rfl rfl (vop_len (sz := 1) (l := p0) (f := cU8) (by kernel_rfl) (by kernel_rfl)) ?_
  refine sts_ok 2 (s' := ⟨[(3, (.d (.i .i64 (IntKind.wrap .i64 (28322 + (p0.length : Int)))))), (7, (.d (.i .i64 (IntKind.wrap .i64 (28322 + (p0.length : Int)))))), (6, (.d (.i .i64 (p0.length : Int)))), (5, (.d (.sl 1 (p0.map cU8)))), (2, .np), (0, (.d (.sl 1 (p0.map cU8))))], []⟩) (by kernel_rfl) ?_
  refine nil_in ?_
  refine next_in ?_
  refine seq_in ?_
  refine seq_in ?_
  refine ops_in ?_
  refine sts_ok 1 (s' := ⟨[(4, (.d (.i .i64 0))), (3, (.d (.i .i64 (IntKind.wrap .i64 (28322 + (p0.length : Int)))))), (7, (.d (.i .i64 (IntKind.wrap .i64 (28322 + (p0.length : Int)))))), (6, (.d (.i .i64 (p0.length : Int)))), (5, (.d (.sl 1 (p0.map cU8)))), (2, .np), (0, (.d (.sl 1 (p0.map cU8))))], []⟩) (by kernel_rfl) ?_
  refine nil_in ?_
  refine next_in ?_
  refine block_in ?_
  exact loop_go (s' := stsL1New_L0 p0 (IntKind.wrap .i64 (28322 + (p0.length : Int))) 0) (wk_ren [] (by kernel_rfl) (er_cons (vr_same (by kernel_rfl) (by kernel_rfl)) (er_cons (vr_same (by kernel_rfl) (by kernel_rfl)) (er_cons (vr_same (by kernel_rfl) (by kernel_rfl)) (er_nil)))) (br_nil)) (OK_sL1New_L0 p0 (IntKind.wrap .i64 (28322 + (p0.length : Int))) 0 _ h)
theorem OK_sL1Once (p0 : GL1Cur) (p1 : Int) : FOkB Try.prog 77 [(.ptr 1000000 0), (.d (.i .i64 p1))] [(1000000, bGL1Cur p0)] (fun (y : Bool × GL1Cur) => (.d (.b y.1))) (fun (y : Bool × GL1Cur) => [(1000000, bGL1Cur y.2)]) (sL1Once p0 p1) := by
  intro r h
  rw [sL1Once] at h
  refine acalls_of_fn trsL1Once (Nat.le_of_ble_eq_true rfl) (by intro n hn; simp at hn; omega) ?_
  show avc Try.prog acsL1Once (qsL1Once _) ⟨[(0, (.ptr 1000000 0)), (1, (.d (.i .i64 p1)))], [(1000000, bGL1Cur p0)]⟩
  delta acsL1Once
  refine seq_in ?_
  refine ops_in ?_
  refine sts_ok 1 (s' := ⟨[(4, (.d (.b false))), (0, (.ptr 1000000 0)), (1, (.d (.i .i64 p1)))], [(1000000, bGL1Cur p0)]⟩) (by kernel_rfl) ?_
  refine nil_in ?_
  refine next_in ?_
  refine seq_in ?_
  refine ops_in ?_
  refine sts_ok 2 (s' := ⟨[(6, (.d (.i .i64 p1))), (5, (.ptr 1000000 0)), (4, (.d (.b false))), (0, (.ptr 1000000 0)), (1, (.d (.i .i64 p1)))], [(1000000, bGL1Cur p0)]⟩) (by kernel_rfl) ?_
  refine callg_step ⟨[(1000000, 1000000)], [], [], [], [], [], [], []⟩ (m := sL1Below p0 p1) (S' := fun (y : Int × GL1Cur) => ⟨[(7, (.d (.i .i64 y.1))), (6, (.d (.i .i64 p1))), (5, (.ptr 1000000 0)), (4, (.d (.b false))), (0, (.ptr 1000000 0)), (1, (.d (.i .i64 p1)))], [(1000000, bGL1Cur y.2)]⟩) h (OK_sL1Below p0 p1) (by kernel_rfl) (by kernel_rfl) (by kernel_rfl) (by kernel_rfl) (fun y => by kernel_rfl) (fun y => by kernel_rfl) ?_
  clear h; intro y1 h
  refine sts_ok 2 (s' := ⟨[(4, (.d (.b (decide (y1.1 = 0))))), (8, (.d (.b (decide (y1.1 = 0))))), (7, (.d (.i .i64 y1.1))), (6, (.d (.i .i64 p1))), (5, (.ptr 1000000 0)), (4, (.d (.b false))), (0, (.ptr 1000000 0)), (1, (.d (.i .i64 p1)))], [(1000000, bGL1Cur y1.2)]⟩) (by kernel_rfl) ?_
  refine nil_in ?_
  refine next_in ?_
  refine ret_in ?_
  have h := Option.some.inj h; subst h
  exact ret1_step (v := (.d (.b (decide (y1.1 = 0))))) (by kernel_rfl) (by kernel_rfl) ⟨by kernel_rfl, by kernel_rfl, trivial⟩
theorem OK_sL1Pick (p0 : GL1Cur) (p1 : (List (List UInt8))) : FOkB Try.prog 150 [(.ptr 1000000 0), (.d (.sl 1 (p1.map cStr)))] [(1000000, bGL1Cur p0)] (fun (y : (List UInt8) × GL1Cur) => (.d (.s (bs y.1)))) (fun (y : (List UInt8) × GL1Cur) => [(1000000, bGL1Cur y.2)]) (sL1Pick p0 p1) := by
  intro r h
  rw [sL1Pick] at h
  refine acalls_of_fn trsL1Pick (Nat.le_of_ble_eq_true rfl) (by intro n hn; simp at hn; omega) ?_
  show avc Try.prog acsL1Pick (qsL1Pick _) ⟨[(0, (.ptr 1000000 0)), (1, (.d (.sl 1 (p1.map cStr))))], [(1000000, bGL1Cur p0)]⟩
  delta acsL1Pick
  refine seq_in ?_
  refine ops_in ?_
  refine sts_ok 1 (s' := ⟨[(4, (.d (.s (bs [])))), (0, (.ptr 1000000 0)), (1, (.d (.sl 1 (p1.map cStr))))], [(1000000, bGL1Cur p0)]⟩) (by kernel_rfl) ?_
  refine nil_in ?_
  refine next_in ?_
  refine seq_in ?_
  refine ops_in ?_
  refine sts_ok 3 (s' := ⟨[(7, (.d (.sl 1 (p1.map cStr)))), (6, (.ptr 1000000 0)), (5, (.d (.sl 1 (p1.map cStr)))), (4, (.d (.s (bs [])))), (0, (.ptr 1000000 0)), (1, (.d (.sl 1 (p1.map cStr))))], [(1000000, bGL1Cur p0)]⟩) (by kernel_rfl) ?_
  refine p_step (v' := (.d (.i .i64 (p1.length : Int)))) rfl rfl (vop_len (sz := 1) (l := p1) (f := cStr) (by kernel_rfl) (by kernel_rfl)) ?_
  refine callg_step ⟨[(1000000, 1000000)], [], [], [], [], [], [], []⟩ (m := sL1Below p0 (p1.length : Int)) (S' := fun (y : Int × GL1Cur) => ⟨[(9, (.d (.i .i64 y.1))), (8, (.d (.i .i64 (p1.length : Int)))), (7, (.d (.sl 1 (p1.map cStr)))), (6, (.ptr 1000000 0)), (5, (.d (.sl 1 (p1.map cStr)))), (4, (.d (.s (bs [])))), (0, (.ptr 1000000 0)), (1, (.d (.sl 1 (p1.map cStr))))], [(1000000, bGL1Cur y.2)]⟩) h (OK_sL1Below p0 (p1.length : Int)) (by kernel_rfl) (by kernel_rfl) (by kernel_rfl) (by kernel_rfl) (fun y => by kernel_rfl) (fun y => by kernel_rfl) ?_
  clear h; intro y1 h
  refine v_step (m := idx p1 y1.1) (v' := fun y => (.rp [(.s (bs y))])) h rfl rfl (fun y hy => vop_ia (l := p1) (f := cStr) (g := cStr) (k := .i64) hy (fun _ => rfl) (by kernel_rfl) (by kernel_rfl) (by kernel_rfl)) ?_
  clear h; intro y2 h
  refine sts_ok 2 (s' := ⟨[(4, (.d (.s (bs y2)))), (11, (.d (.s (bs y2)))), (10, (.rp [(.s (bs y2))])), (9, (.d (.i .i64 y1.1))), (8, (.d (.i .i64 (p1.length : Int)))), (7, (.d (.sl 1 (p1.map cStr)))), (6, (.ptr 1000000 0)), (5, (.d (.sl 1 (p1.map cStr)))), (4, (.d (.s (bs [])))), (0, (.ptr 1000000 0)), (1, (.d (.sl 1 (p1.map cStr))))], [(1000000, bGL1Cur y1.2)]⟩) (by kernel_rfl) ?_
  refine nil_in ?_
  refine next_in ?_
  refine ret_in ?_
  have h := Option.some.inj h; subst h
  exact ret1_step (v := (.d (.s (bs y2)))) (by kernel_rfl) (by kernel_rfl) ⟨by kernel_rfl, by kernel_rfl, trivial⟩
theorem OK_sL1PickInt (p0 : GL1Cur) (p1 : (List Int)) : FOkB Try.prog 184 [(.ptr 1000000 0), (.d (.sl 1 (p1.map cI)))] [(1000000, bGL1Cur p0)] (fun (y : Int × GL1Cur) => (.d (.i .i64 y.1))) (fun (y : Int × GL1Cur) => [(1000000, bGL1Cur y.2)]) (sL1PickInt p0 p1) := by
  intro r h
  rw [sL1PickInt] at h
  refine acalls_of_fn trsL1PickInt (Nat.le_of_ble_eq_true rfl) (by intro n hn; simp at hn; omega) ?_
  show avc Try.prog acsL1PickInt (qsL1PickInt _) ⟨[(0, (.ptr 1000000 0)), (1, (.d (.sl 1 (p1.map cI))))], [(1000000, bGL1Cur p0)]⟩
  delta acsL1PickInt
  refine seq_in ?_
  refine ops_in ?_
  refine sts_ok 1 (s' := ⟨[(4, (.d (.i .i64 0))), (0, (.ptr 1000000 0)), (1, (.d (.sl 1 (p1.map cI))))], [(1000000, bGL1Cur p0)]⟩) (by kernel_rfl) ?_
  refine nil_in ?_
  refine next_in ?_
  refine seq_in ?_
  refine ops_in ?_
  refine sts_ok 3 (s' := ⟨[(7, (.d (.sl 1 (p1.map cI)))), (6, (.ptr 1000000 0)), (5, (.d (.sl 1 (p1.map cI)))), (4, (.d (.i .i64 0))), (0, (.ptr 1000000 0)), (1, (.d (.sl 1 (p1.map cI))))], [(1000000, bGL1Cur p0)]⟩) (by kernel_rfl) ?_
  refine p_step (v' := (.d (.i .i64 (p1.length : Int)))) rfl rfl (vop_len (sz := 1) (l := p1) (f := cI) (by kernel_rfl) (by kernel_rfl)) ?_
  refine callg_step ⟨[(1000000, 1000000)], [], [], [], [], [], [], []⟩ (m := sL1Below p0 (p1.length : Int)) (S' := fun (y : Int × GL1Cur) => ⟨[(9, (.d (.i .i64 y.1))), (8, (.d (.i .i64 (p1.length : Int)))), (7, (.d (.sl 1 (p1.map cI)))), (6, (.ptr 1000000 0)), (5, (.d (.sl 1 (p1.map cI)))), (4, (.d (.i .i64 0))), (0, (.ptr 1000000 0)), (1, (.d (.sl 1 (p1.map cI))))], [(1000000, bGL1Cur y.2)]⟩) h (OK_sL1Below p0 (p1.length : Int)) (by kernel_rfl) (by kernel_rfl) (by kernel_rfl) (by kernel_rfl) (fun y => by kernel_rfl) (fun y => by kernel_rfl) ?_
  clear h; intro y1 h
  refine v_step (m := idx p1 y1.1) (v' := fun y => (.rp [(.i .i64 y)])) h rfl rfl (fun y hy => vop_ia (l := p1) (f := cI) (g := cI) (k := .i64) hy (fun _ => rfl) (by kernel_rfl) (by kernel_rfl) (by kernel_rfl)) ?_
  clear h; intro y2 h
  refine sts_ok 2 (s' := ⟨[(4, (.d (.i .i64 y2))), (11, (.d (.i .i64 y2))), (10, (.rp [(.i .i64 y2)])), (9, (.d (.i .i64 y1.1))), (8, (.d (.i .i64 (p1.length : Int)))), (7, (.d (.sl 1 (p1.map cI)))), (6, (.ptr 1000000 0)), (5, (.d (.sl 1 (p1.map cI)))), (4, (.d (.i .i64 0))), (0, (.ptr 1000000 0)), (1, (.d (.sl 1 (p1.map cI))))], [(1000000, bGL1Cur y1.2)]⟩) (by kernel_rfl) ?_
  refine nil_in ?_
  refine next_in ?_
  refine ret_in ?_
  have h := Option.some.inj h; subst h
  exact ret1_step (v := (.d (.i .i64 y2))) (by kernel_rfl) (by kernel_rfl) ⟨by kernel_rfl, by kernel_rfl, trivial⟩
theorem OK_sL1Whole (p0 : GL1Cur) : FOkB Try.prog 149 [(.ptr 1000000 0)] [(1000000, bGL1Cur p0)] (fun (y : Int × GL1Cur) => (.d (.i .i64 y.1))) (fun (y : Int × GL1Cur) => [(1000000, bGL1Cur y.2)]) (sL1Whole p0) := by
  intro r h
  rw [sL1Whole] at h
  refine acalls_of_fn trsL1Whole (Nat.le_of_ble_eq_true rfl) (by intro n hn; simp at hn; omega) ?_
  show avc Try.prog acsL1Whole (qsL1Whole _) ⟨[(0, (.ptr 1000000 0))], [(1000000, bGL1Cur p0)]⟩
  delta acsL1Whole
  refine seq_in ?_
  refine ops_in ?_
  refine sts_ok 1 (s' := ⟨[(2, (.d (.i .i64 0))), (0, (.ptr 1000000 0))], [(1000000, bGL1Cur p0)]⟩) (by kernel_rfl) ?_
  refine nil_in ?_
  refine next_in ?_
  refine seq_in ?_
  refine seq_in ?_
  refine ops_in ?_
  refine sts_ok 1 (s' := ⟨[(3, (.ptr 1000000 0)), (2, (.d (.i .i64 0))), (0, (.ptr 1000000 0))], [(1000000, bGL1Cur p0)]⟩) (by kernel_rfl) ?_
  refine callg_step ⟨[(1000000, 1000000)], [], [], [], [], [], [], []⟩ (m := sL1Below p0 3) (S' := fun (y : Int × GL1Cur) => ⟨[(4, (.d (.i .i64 y.1))), (3, (.ptr 1000000 0)), (2, (.d (.i .i64 0))), (0, (.ptr 1000000 0))], [(1000000, bGL1Cur y.2)]⟩) h (OK_sL1Below p0 3) (by kernel_rfl) (by kernel_rfl) (by kernel_rfl) (by kernel_rfl) (fun y => by kernel_rfl) (fun y => by kernel_rfl) ?_
  clear h; intro y1 h
  refine nil_in ?_
  refine next_in ?_
  refine block_in ?_
  refine seq_in ?_
  refine ops_in ?_
  refine sts_ok 2 (s' := ⟨[(5, (.d (.b (decide (y1.1 = 0))))), (6, (.d (.b (decide (y1.1 = 0))))), (4, (.d (.i .i64 y1.1))), (3, (.ptr 1000000 0)), (2, (.d (.i .i64 0))), (0, (.ptr 1000000 0))], [(1000000, bGL1Cur y1.2)]⟩) (by kernel_rfl) ?_
  refine nil_in ?_
  refine next_in ?_
  refine cond_step h (by kernel_rfl) ?_ ?_
  · clear h; intro h
    refine seq_in ?_
    refine ops_in ?_
    refine sts_ok 1 (s' := ⟨[(7, (.ptr 1000000 0)), (5, (.d (.b (decide (y1.1 = 0))))), (6, (.d (.b (decide (y1.1 = 0))))), (4, (.d (.i .i64 y1.1))), (3, (.ptr 1000000 0)), (2, (.d (.i .i64 0))), (0, (.ptr 1000000 0))], [(1000000, bGL1Cur y1.2)]⟩) (by kernel_rfl) ?_
    refine bsl_step (l := ([0, 1, (-1), 63, 64, (-64), (-65), 127, 128, 16383, 16384, 9223372036854775807, (-9223372036854775808), 4611686018427387904] : List Int)) (f := cI) (g := cI) (by kernel_rfl) (fun _ => rfl) (by kernel_rfl) ?_
    refine callg_step ⟨[(1000000, 1000000)], [], [], [], [], [], [], []⟩ (m := sL1PickInt y1.2 ([0, 1, (-1), 63, 64, (-64), (-65), 127, 128, 16383, 16384, 9223372036854775807, (-9223372036854775808), 4611686018427387904] : List Int)) (S' := fun (y : Int × GL1Cur) => ⟨[(9, (.d (.i .i64 y.1))), (8, (.osl 8 3 1 (([0, 1, (-1), 63, 64, (-64), (-65), 127, 128, 16383, 16384, 9223372036854775807, (-9223372036854775808), 4611686018427387904] : List Int).map cI))), (7, (.ptr 1000000 0)), (5, (.d (.b (decide (y1.1 = 0))))), (6, (.d (.b (decide (y1.1 = 0))))), (4, (.d (.i .i64 y1.1))), (3, (.ptr 1000000 0)), (2, (.d (.i .i64 0))), (0, (.ptr 1000000 0))], [(1000000, bGL1Cur y.2)]⟩) h (OK_sL1PickInt y1.2 ([0, 1, (-1), 63, 64, (-64), (-65), 127, 128, 16383, 16384, 9223372036854775807, (-9223372036854775808), 4611686018427387904] : List Int)) (by kernel_rfl) (by kernel_rfl) (by kernel_rfl) (by kernel_rfl) (fun y => by kernel_rfl) (fun y => by kernel_rfl) ?_
    clear h; intro y2 h
    refine sts_ok 1 (s' := ⟨[(2, (.d (.i .i64 y2.1))), (9, (.d (.i .i64 y2.1))), (8, (.osl 8 3 1 (([0, 1, (-1), 63, 64, (-64), (-65), 127, 128, 16383, 16384, 9223372036854775807, (-9223372036854775808), 4611686018427387904] : List Int).map cI))), (7, (.ptr 1000000 0)), (5, (.d (.b (decide (y1.1 = 0))))), (6, (.d (.b (decide (y1.1 = 0))))), (4, (.d (.i .i64 y1.1))), (3, (.ptr 1000000 0)), (2, (.d (.i .i64 0))), (0, (.ptr 1000000 0))], [(1000000, bGL1Cur y2.2)]⟩) (by kernel_rfl) ?_
    refine nil_in ?_
    refine next_in ?_
    refine ret_in ?_
    refine blockK_ret ?_
    refine thenK_ret ?_
    have h := Option.some.inj h; subst h
    exact ret1_step (v := (.d (.i .i64 y2.1))) (by kernel_rfl) (by kernel_rfl) ⟨by kernel_rfl, by kernel_rfl, trivial⟩
  · clear h; intro h
    refine seq_in ?_
    refine ops_in ?_
    refine sts_ok 2 (s' := ⟨[(10, (.d (.b (decide (y1.1 = 1))))), (11, (.d (.b (decide (y1.1 = 1))))), (5, (.d (.b (decide (y1.1 = 0))))), (6, (.d (.b (decide (y1.1 = 0))))), (4, (.d (.i .i64 y1.1))), (3, (.ptr 1000000 0)), (2, (.d (.i .i64 0))), (0, (.ptr 1000000 0))], [(1000000, bGL1Cur y1.2)]⟩) (by kernel_rfl) ?_
    refine nil_in ?_
    refine next_in ?_
    refine cond_step h (by kernel_rfl) ?_ ?_
    · clear h; intro h
      refine seq_in ?_
      refine ops_in ?_
      refine sts_ok 1 (s' := ⟨[(12, (.ptr 1000000 0)), (10, (.d (.b (decide (y1.1 = 1))))), (11, (.d (.b (decide (y1.1 = 1))))), (5, (.d (.b (decide (y1.1 = 0))))), (6, (.d (.b (decide (y1.1 = 0))))), (4, (.d (.i .i64 y1.1))), (3, (.ptr 1000000 0)), (2, (.d (.i .i64 0))), (0, (.ptr 1000000 0))], [(1000000, bGL1Cur y1.2)]⟩) (by kernel_rfl) ?_
      refine callg_step ⟨[(1000000, 1000000)], [], [], [], [], [], [], []⟩ (m := sL1Below y1.2 1000000) (S' := fun (y : Int × GL1Cur) => ⟨[(13, (.d (.i .i64 y.1))), (12, (.ptr 1000000 0)), (10, (.d (.b (decide (y1.1 = 1))))), (11, (.d (.b (decide (y1.1 = 1))))), (5, (.d (.b (decide (y1.1 = 0))))), (6, (.d (.b (decide (y1.1 = 0))))), (4, (.d (.i .i64 y1.1))), (3, (.ptr 1000000 0)), (2, (.d (.i .i64 0))), (0, (.ptr 1000000 0))], [(1000000, bGL1Cur y.2)]⟩) h (OK_sL1Below y1.2 1000000) (by kernel_rfl) (by kernel_rfl) (by kernel_rfl) (by kernel_rfl) (fun y => by kernel_rfl) (fun y => by kernel_rfl) ?_
      clear h; intro y3 h
      refine sts_ok 2 (s' := ⟨[(2, (.d (.i .i64 (IntKind.wrap .i64 (y3.1 - 500000))))), (14, (.d (.i .i64 (IntKind.wrap .i64 (y3.1 - 500000))))), (13, (.d (.i .i64 y3.1))), (12, (.ptr 1000000 0)), (10, (.d (.b (decide (y1.1 = 1))))), (11, (.d (.b (decide (y1.1 = 1))))), (5, (.d (.b (decide (y1.1 = 0))))), (6, (.d (.b (decide (y1.1 = 0))))), (4, (.d (.i .i64 y1.1))), (3, (.ptr 1000000 0)), (2, (.d (.i .i64 0))), (0, (.ptr 1000000 0))], [(1000000, bGL1Cur y3.2)]⟩) (by kernel_rfl) ?_
      refine nil_in ?_
      refine next_in ?_
      refine ret_in ?_
      refine blockK_ret ?_
      refine thenK_ret ?_
      have h := Option.some.inj h; subst h
      exact ret1_step (v := (.d (.i .i64 (IntKind.wrap .i64 (y3.1 - 500000))))) (by kernel_rfl) (by kernel_rfl) ⟨by kernel_rfl, by kernel_rfl, trivial⟩
    · clear h; intro h
      refine skip_in ?_
      refine blockK_norm ?_
      refine next_in ?_
      refine seq_in ?_
      refine ops_in ?_
      refine sts_ok 1 (s' := ⟨[(15, (.ptr 1000000 0)), (10, (.d (.b (decide (y1.1 = 1))))), (11, (.d (.b (decide (y1.1 = 1))))), (5, (.d (.b (decide (y1.1 = 0))))), (6, (.d (.b (decide (y1.1 = 0))))), (4, (.d (.i .i64 y1.1))), (3, (.ptr 1000000 0)), (2, (.d (.i .i64 0))), (0, (.ptr 1000000 0))], [(1000000, bGL1Cur y1.2)]⟩) (by kernel_rfl) ?_
      refine callg_step ⟨[(1000000, 1000000)], [], [], [], [], [], [], []⟩ (m := sL1Below y1.2 20) (S' := fun (y : Int × GL1Cur) => ⟨[(16, (.d (.i .i64 y.1))), (15, (.ptr 1000000 0)), (10, (.d (.b (decide (y1.1 = 1))))), (11, (.d (.b (decide (y1.1 = 1))))), (5, (.d (.b (decide (y1.1 = 0))))), (6, (.d (.b (decide (y1.1 = 0))))), (4, (.d (.i .i64 y1.1))), (3, (.ptr 1000000 0)), (2, (.d (.i .i64 0))), (0, (.ptr 1000000 0))], [(1000000, bGL1Cur y.2)]⟩) h (OK_sL1Below y1.2 20) (by kernel_rfl) (by kernel_rfl) (by kernel_rfl) (by kernel_rfl) (fun y => by kernel_rfl) (fun y => by kernel_rfl) ?_
      clear h; intro y4 h
      refine sts_ok 1 (s' := ⟨[(2, (.d (.i .i64 y4.1))), (16, (.d (.i .i64 y4.1))), (15, (.ptr 1000000 0)), (10, (.d (.b (decide (y1.1 = 1))))), (11, (.d (.b (decide (y1.1 = 1))))), (5, (.d (.b (decide (y1.1 = 0))))), (6, (.d (.b (decide (y1.1 = 0))))), (4, (.d (.i .i64 y1.1))), (3, (.ptr 1000000 0)), (2, (.d (.i .i64 0))), (0, (.ptr 1000000 0))], [(1000000, bGL1Cur y4.2)]⟩) (by kernel_rfl) ?_
      refine nil_in ?_
      refine next_in ?_
      refine ret_in ?_
      have h := Option.some.inj h; subst h
      exact ret1_step (v := (.d (.i .i64 y4.1))) (by kernel_rfl) (by kernel_rfl) ⟨by kernel_rfl, by kernel_rfl, trivial⟩
theorem OK_sL6Typed (p0 : GL1Cur) (p1 : Int) : FOkB Try.prog 152 [(.ptr 1000000 0), (.d (.i .i64 p1))] [(1000000, bGL1Cur p0)] (fun (y : GValue × GL1Cur) => (vGValue y.1)) (fun (y : GValue × GL1Cur) => [(1000000, bGL1Cur y.2)]) (sL6Typed p0 p1) := by
  intro r h
  rw [sL6Typed] at h
  refine acalls_of_fn trsL6Typed (Nat.le_of_ble_eq_true rfl) (by intro n hn; simp at hn; omega) ?_
  show avc Try.prog acsL6Typed (qsL6Typed _) ⟨[(0, (.ptr 1000000 0)), (1, (.d (.i .i64 p1)))], [(1000000, bGL1Cur p0)]⟩
  delta acsL6Typed
  refine seq_in ?_
  refine ops_in ?_
  refine sts_ok 1 (s' := ⟨[(4, (.ptr 4 0)), (0, (.ptr 1000000 0)), (1, (.d (.i .i64 p1)))], [(4, [(.d (.i .i64 0)), (.d (.i .i64 0)), (.d (.s (bs [])))]), (1000000, bGL1Cur p0)]⟩) (by kernel_rfl) ?_
  refine nil_in ?_
  refine next_in ?_
  refine seq_in ?_
  refine seq_in ?_
  refine ops_in ?_
  refine sts_ok 1 (s' := ⟨[(5, (.ptr 1000000 0)), (4, (.ptr 4 0)), (0, (.ptr 1000000 0)), (1, (.d (.i .i64 p1)))], [(4, [(.d (.i .i64 0)), (.d (.i .i64 0)), (.d (.s (bs [])))]), (1000000, bGL1Cur p0)]⟩) (by kernel_rfl) ?_
  refine callg_step ⟨[(1000000, 1000000)], [], [], [], [], [], [], []⟩ (m := sL1Once p0 6) (S' := fun (y : Bool × GL1Cur) => ⟨[(6, (.d (.b y.1))), (5, (.ptr 1000000 0)), (4, (.ptr 4 0)), (0, (.ptr 1000000 0)), (1, (.d (.i .i64 p1)))], [(4, [(.d (.i .i64 0)), (.d (.i .i64 0)), (.d (.s (bs [])))]), (1000000, bGL1Cur y.2)]⟩) h (OK_sL1Once p0 6) (by kernel_rfl) (by kernel_rfl) (by kernel_rfl) (by kernel_rfl) (fun y => by kernel_rfl) (fun y => by kernel_rfl) ?_
  clear h; intro y1 h
  refine nil_in ?_
  refine next_in ?_
  refine cond_step h (by kernel_rfl) ?_ ?_
  · clear h; intro h
    refine seq_in ?_
    refine ops_in ?_
    refine sts_ok 2 (s' := ⟨[(7, (vGValue (GValue.mk 0 0 []))), (6, (.d (.b y1.1))), (5, (.ptr 1000000 0)), (4, (.ptr 4 0)), (0, (.ptr 1000000 0)), (1, (.d (.i .i64 p1)))], [(4, [(.d (.i .i64 0)), (.d (.i .i64 0)), (.d (.s (bs [])))]), (1000000, bGL1Cur y1.2)]⟩) (by kernel_rfl) ?_
    refine nil_in ?_
    refine next_in ?_
    refine ret_in ?_
    refine thenK_ret ?_
    have h := Option.some.inj h; subst h
    exact ret1_step (v := (vGValue (GValue.mk 0 0 []))) (by kernel_rfl) (by kernel_rfl) ⟨by kernel_rfl, by kernel_rfl, trivial⟩
  · clear h; intro h
    refine skip_in ?_
    refine next_in ?_
    refine seq_in ?_
    refine seq_in ?_
    refine ops_in ?_
    refine sts_ok 1 (s' := ⟨[(8, (.d (.i .i64 p1))), (6, (.d (.b y1.1))), (5, (.ptr 1000000 0)), (4, (.ptr 4 0)), (0, (.ptr 1000000 0)), (1, (.d (.i .i64 p1)))], [(4, [(.d (.i .i64 0)), (.d (.i .i64 0)), (.d (.s (bs [])))]), (1000000, bGL1Cur y1.2)]⟩) (by kernel_rfl) ?_
    refine nil_in ?_
    refine next_in ?_
    refine block_in ?_
    refine seq_in ?_
    refine ops_in ?_
    refine sts_ok 2 (s' := ⟨[(9, (.d (.b (decide (p1 = 2))))), (10, (.d (.b (decide (p1 = 2))))), (8, (.d (.i .i64 p1))), (6, (.d (.b y1.1))), (5, (.ptr 1000000 0)), (4, (.ptr 4 0)), (0, (.ptr 1000000 0)), (1, (.d (.i .i64 p1)))], [(4, [(.d (.i .i64 0)), (.d (.i .i64 0)), (.d (.s (bs [])))]), (1000000, bGL1Cur y1.2)]⟩) (by kernel_rfl) ?_
    refine nil_in ?_
    refine next_in ?_
    refine cond_step h (by kernel_rfl) ?_ ?_
    · clear h; intro h
      refine seq_in ?_
      refine ops_in ?_
      refine sts_ok 1 (s' := ⟨[(11, (.ptr 1000000 0)), (9, (.d (.b (decide (p1 = 2))))), (10, (.d (.b (decide (p1 = 2))))), (8, (.d (.i .i64 p1))), (6, (.d (.b y1.1))), (5, (.ptr 1000000 0)), (4, (.ptr 4 0)), (0, (.ptr 1000000 0)), (1, (.d (.i .i64 p1)))], [(4, [(.d (.i .i64 0)), (.d (.i .i64 0)), (.d (.s (bs [])))]), (1000000, bGL1Cur y1.2)]⟩) (by kernel_rfl) ?_
      refine bsl_step (l := ([[], [97], [98], [97, 98]] : List (List UInt8))) (f := cStr) (g := cStr) (by kernel_rfl) (fun _ => rfl) (by kernel_rfl) ?_
      refine callg_step ⟨[(1000000, 1000000)], [], [], [], [], [], [], []⟩ (m := sL1Pick y1.2 ([[], [97], [98], [97, 98]] : List (List UInt8))) (S' := fun (y : (List UInt8) × GL1Cur) => ⟨[(13, (.d (.s (bs y.1)))), (12, (.osl 12 9 1 (([[], [97], [98], [97, 98]] : List (List UInt8)).map cStr))), (11, (.ptr 1000000 0)), (9, (.d (.b (decide (p1 = 2))))), (10, (.d (.b (decide (p1 = 2))))), (8, (.d (.i .i64 p1))), (6, (.d (.b y1.1))), (5, (.ptr 1000000 0)), (4, (.ptr 4 0)), (0, (.ptr 1000000 0)), (1, (.d (.i .i64 p1)))], [(4, [(.d (.i .i64 0)), (.d (.i .i64 0)), (.d (.s (bs [])))]), (1000000, bGL1Cur y.2)]⟩) h (OK_sL1Pick y1.2 ([[], [97], [98], [97, 98]] : List (List UInt8))) (by kernel_rfl) (by kernel_rfl) (by kernel_rfl) (by kernel_rfl) (fun y => by kernel_rfl) (fun y => by kernel_rfl) ?_
      clear h; intro y2 h
      refine call_step (m := sTextValue y2.1) (args := [(.d (.s (bs y2.1)))]) (v' := (fun y => (vGValue y))) h (OK_sTextValue y2.1) (by kernel_rfl) (by kernel_rfl) (fun _ => rfl) ?_
      clear h; intro y3 h
      refine sts_ok 1 (s' := ⟨[(14, (vGValue y3)), (13, (.d (.s (bs y2.1)))), (12, (.osl 12 9 1 (([[], [97], [98], [97, 98]] : List (List UInt8)).map cStr))), (11, (.ptr 1000000 0)), (9, (.d (.b (decide (p1 = 2))))), (10, (.d (.b (decide (p1 = 2))))), (8, (.d (.i .i64 p1))), (6, (.d (.b y1.1))), (5, (.ptr 1000000 0)), (4, (.ptr 4 0)), (0, (.ptr 1000000 0)), (1, (.d (.i .i64 p1)))], [(4, [(.d (.i .i64 y3.kind)), (.d (.i .i64 y3.num)), (.d (.s (bs y3.text)))]), (1000000, bGL1Cur y2.2)]⟩) (by kernel_rfl) ?_
      refine nil_in ?_
      refine next_in ?_
      refine ret_in ?_
      refine blockK_ret ?_
      refine thenK_ret ?_
      have h := Option.some.inj h; subst h
      exact ret1_step (v := (vGValue y3)) (by kernel_rfl) (by kernel_rfl) ⟨by kernel_rfl, by kernel_rfl, trivial⟩
    · clear h; intro h
      refine seq_in ?_
      refine ops_in ?_
      refine sts_ok 2 (s' := ⟨[(15, (.d (.b (decide (p1 = 3))))), (16, (.d (.b (decide (p1 = 3))))), (9, (.d (.b (decide (p1 = 2))))), (10, (.d (.b (decide (p1 = 2))))), (8, (.d (.i .i64 p1))), (6, (.d (.b y1.1))), (5, (.ptr 1000000 0)), (4, (.ptr 4 0)), (0, (.ptr 1000000 0)), (1, (.d (.i .i64 p1)))], [(4, [(.d (.i .i64 0)), (.d (.i .i64 0)), (.d (.s (bs [])))]), (1000000, bGL1Cur y1.2)]⟩) (by kernel_rfl) ?_
      refine nil_in ?_
      refine next_in ?_
      refine cond_step h (by kernel_rfl) ?_ ?_
      · clear h; intro h
        refine seq_in ?_
        refine ops_in ?_
        refine sts_ok 1 (s' := ⟨[(17, (.ptr 1000000 0)), (15, (.d (.b (decide (p1 = 3))))), (16, (.d (.b (decide (p1 = 3))))), (9, (.d (.b (decide (p1 = 2))))), (10, (.d (.b (decide (p1 = 2))))), (8, (.d (.i .i64 p1))), (6, (.d (.b y1.1))), (5, (.ptr 1000000 0)), (4, (.ptr 4 0)), (0, (.ptr 1000000 0)), (1, (.d (.i .i64 p1)))], [(4, [(.d (.i .i64 0)), (.d (.i .i64 0)), (.d (.s (bs [])))]), (1000000, bGL1Cur y1.2)]⟩) (by kernel_rfl) ?_
        refine callg_step ⟨[(1000000, 1000000)], [], [], [], [], [], [], []⟩ (m := sL1Once y1.2 2) (S' := fun (y : Bool × GL1Cur) => ⟨[(18, (.d (.b y.1))), (17, (.ptr 1000000 0)), (15, (.d (.b (decide (p1 = 3))))), (16, (.d (.b (decide (p1 = 3))))), (9, (.d (.b (decide (p1 = 2))))), (10, (.d (.b (decide (p1 = 2))))), (8, (.d (.i .i64 p1))), (6, (.d (.b y1.1))), (5, (.ptr 1000000 0)), (4, (.ptr 4 0)), (0, (.ptr 1000000 0)), (1, (.d (.i .i64 p1)))], [(4, [(.d (.i .i64 0)), (.d (.i .i64 0)), (.d (.s (bs [])))]), (1000000, bGL1Cur y.2)]⟩) h (OK_sL1Once y1.2 2) (by kernel_rfl) (by kernel_rfl) (by kernel_rfl) (by kernel_rfl) (fun y => by kernel_rfl) (fun y => by kernel_rfl) ?_
        clear h; intro y4 h
        refine call_step (m := sBoolValue y4.1) (args := [(.d (.b y4.1))]) (v' := (fun y => (vGValue y))) h (OK_sBoolValue y4.1) (by kernel_rfl) (by kernel_rfl) (fun _ => rfl) ?_
        clear h; intro y5 h
        refine sts_ok 1 (s' := ⟨[(19, (vGValue y5)), (18, (.d (.b y4.1))), (17, (.ptr 1000000 0)), (15, (.d (.b (decide (p1 = 3))))), (16, (.d (.b (decide (p1 = 3))))), (9, (.d (.b (decide (p1 = 2))))), (10, (.d (.b (decide (p1 = 2))))), (8, (.d (.i .i64 p1))), (6, (.d (.b y1.1))), (5, (.ptr 1000000 0)), (4, (.ptr 4 0)), (0, (.ptr 1000000 0)), (1, (.d (.i .i64 p1)))], [(4, [(.d (.i .i64 y5.kind)), (.d (.i .i64 y5.num)), (.d (.s (bs y5.text)))]), (1000000, bGL1Cur y4.2)]⟩) (by kernel_rfl) ?_
        refine nil_in ?_
        refine next_in ?_
        refine ret_in ?_
        refine blockK_ret ?_
        refine thenK_ret ?_
        have h := Option.some.inj h; subst h
        exact ret1_step (v := (vGValue y5)) (by kernel_rfl) (by kernel_rfl) ⟨by kernel_rfl, by kernel_rfl, trivial⟩
      · clear h; intro h
        refine skip_in ?_
        refine blockK_norm ?_
        refine next_in ?_
        refine seq_in ?_
        refine ops_in ?_
        refine sts_ok 1 (s' := ⟨[(20, (.ptr 1000000 0)), (15, (.d (.b (decide (p1 = 3))))), (16, (.d (.b (decide (p1 = 3))))), (9, (.d (.b (decide (p1 = 2))))), (10, (.d (.b (decide (p1 = 2))))), (8, (.d (.i .i64 p1))), (6, (.d (.b y1.1))), (5, (.ptr 1000000 0)), (4, (.ptr 4 0)), (0, (.ptr 1000000 0)), (1, (.d (.i .i64 p1)))], [(4, [(.d (.i .i64 0)), (.d (.i .i64 0)), (.d (.s (bs [])))]), (1000000, bGL1Cur y1.2)]⟩) (by kernel_rfl) ?_
        refine callg_step ⟨[(1000000, 1000000)], [], [], [], [], [], [], []⟩ (m := sL1Whole y1.2) (S' := fun (y : Int × GL1Cur) => ⟨[(21, (.d (.i .i64 y.1))), (20, (.ptr 1000000 0)), (15, (.d (.b (decide (p1 = 3))))), (16, (.d (.b (decide (p1 = 3))))), (9, (.d (.b (decide (p1 = 2))))), (10, (.d (.b (decide (p1 = 2))))), (8, (.d (.i .i64 p1))), (6, (.d (.b y1.1))), (5, (.ptr 1000000 0)), (4, (.ptr 4 0)), (0, (.ptr 1000000 0)), (1, (.d (.i .i64 p1)))], [(4, [(.d (.i .i64 0)), (.d (.i .i64 0)), (.d (.s (bs [])))]), (1000000, bGL1Cur y.2)]⟩) h (OK_sL1Whole y1.2) (by kernel_rfl) (by kernel_rfl) (by kernel_rfl) (by kernel_rfl) (fun y => by kernel_rfl) (fun y => by kernel_rfl) ?_
        clear h; intro y6 h
        refine call_step (m := sIntValue y6.1) (args := [(.d (.i .i64 y6.1))]) (v' := (fun y => (vGValue y))) h (OK_sIntValue y6.1) (by kernel_rfl) (by kernel_rfl) (fun _ => rfl) ?_
        clear h; intro y7 h
        refine sts_ok 1 (s' := ⟨[(22, (vGValue y7)), (21, (.d (.i .i64 y6.1))), (20, (.ptr 1000000 0)), (15, (.d (.b (decide (p1 = 3))))), (16, (.d (.b (decide (p1 = 3))))), (9, (.d (.b (decide (p1 = 2))))), (10, (.d (.b (decide (p1 = 2))))), (8, (.d (.i .i64 p1))), (6, (.d (.b y1.1))), (5, (.ptr 1000000 0)), (4, (.ptr 4 0)), (0, (.ptr 1000000 0)), (1, (.d (.i .i64 p1)))], [(4, [(.d (.i .i64 y7.kind)), (.d (.i .i64 y7.num)), (.d (.s (bs y7.text)))]), (1000000, bGL1Cur y6.2)]⟩) (by kernel_rfl) ?_
        refine nil_in ?_
        refine next_in ?_
        refine ret_in ?_
        have h := Option.some.inj h; subst h
        exact ret1_step (v := (vGValue y7)) (by kernel_rfl) (by kernel_rfl) ⟨by kernel_rfl, by kernel_rfl, trivial⟩
theorem OK_sL26Value (p0 : GL1Cur) (p1 : Int) : FOkB Try.prog 79 [(.ptr 1000000 0), (.d (.i .i64 p1))] [(1000000, bGL1Cur p0)] (fun (y : GValue × GL1Cur) => (vGValue y.1)) (fun (y : GValue × GL1Cur) => [(1000000, bGL1Cur y.2)]) (sL26Value p0 p1) := by
  intro r h
  rw [sL26Value] at h
  refine acalls_of_fn trsL26Value (Nat.le_of_ble_eq_true rfl) (by intro n hn; simp at hn; omega) ?_
  show avc Try.prog acsL26Value (qsL26Value _) ⟨[(0, (.ptr 1000000 0)), (1, (.d (.i .i64 p1)))], [(1000000, bGL1Cur p0)]⟩
  delta acsL26Value
  refine seq_in ?_
  refine ops_in ?_
  refine sts_ok 1 (s' := ⟨[(4, (.ptr 4 0)), (0, (.ptr 1000000 0)), (1, (.d (.i .i64 p1)))], [(4, [(.d (.i .i64 0)), (.d (.i .i64 0)), (.d (.s (bs [])))]), (1000000, bGL1Cur p0)]⟩) (by kernel_rfl) ?_
  refine nil_in ?_
  refine next_in ?_
  refine seq_in ?_
  refine seq_in ?_
  refine ops_in ?_
  refine sts_ok 3 (s' := ⟨[(7, (.d (.b (decide (p1 = 1))))), (6, (.d (.b (decide (p1 = 1))))), (5, (.d (.i .i64 p1))), (4, (.ptr 4 0)), (0, (.ptr 1000000 0)), (1, (.d (.i .i64 p1)))], [(4, [(.d (.i .i64 0)), (.d (.i .i64 0)), (.d (.s (bs [])))]), (1000000, bGL1Cur p0)]⟩) (by kernel_rfl) ?_
  refine gp_step (p := true) (b := (decide (p1 = 1))) (v' := (.ptr 1000000 0)) (by kernel_rfl) rfl rfl (fun hc => vop_val1 (by kernel_rfl) (by kernel_rfl)) ?_
  refine gcallg_step ⟨[(1000000, 1000000)], [], [], [], [], [], [], []⟩ (p := true) (b := (decide (p1 = 1))) (m := sL1Once p0 12) (dflt := ((default : Bool), p0)) (S' := fun (y : Bool × GL1Cur) => ⟨[(9, (.ite (true && ((decide (p1 = 1)) == true)) (.d (.b y.1)))), (8, (.ite (true && ((decide (p1 = 1)) == true)) (.ptr 1000000 0))), (7, (.d (.b (decide (p1 = 1))))), (6, (.d (.b (decide (p1 = 1))))), (5, (.d (.i .i64 p1))), (4, (.ptr 4 0)), (0, (.ptr 1000000 0)), (1, (.d (.i .i64 p1)))], [(4, [(.d (.i .i64 0)), (.d (.i .i64 0)), (.d (.s (bs [])))]), (1000000, bGL1Cur y.2)]⟩) h (by kernel_rfl) (OK_sL1Once p0 12) (fun hc => by kernel_rfl) (by kernel_rfl) (by kernel_rfl) (by kernel_rfl) (fun y => by kernel_rfl) (by kernel_rfl) (fun hc => (Eq.trans (b := ([(true && ((decide (p1 = 1)) == true))] : List Bool).all id) (by kernel_rfl) (all_c hc rfl))) (fun y => by kernel_rfl) ?_
  clear h; intro y1 h
  refine gp_step (p := true) (b := (decide (p1 = 1))) (v' := (.d (.b (!y1.1)))) (by kernel_rfl) rfl rfl (fun hc => vop_val1 (Eq.trans (b := ([(true && ((decide (p1 = 1)) == true))] : List Bool).all id) (by kernel_rfl) (all_c hc rfl)) (by kernel_rfl)) ?_
  refine p_step (v' := (.d (.b (if (decide (p1 = 1)) = true then (!y1.1) else false)))) rfl rfl (vop_pick (b := (decide (p1 = 1))) (p := (true && ((decide (p1 = 1)) == true))) (u := (!y1.1)) (q := true) (v := false) (by kernel_rfl) (by kernel_rfl) (by kernel_rfl) (by kernel_rfl) (fun hb => gc_t rfl hb) (fun _ => rfl)) ?_
  refine nil_in ?_
  refine next_in ?_
  refine cond_step h (by kernel_rfl) ?_ ?_
  · clear h; intro h
    refine seq_in ?_
    refine ops_in ?_
    refine sts_ok 1 (s' := ⟨[(12, (.ptr 1000000 0)), (11, (.d (.b (if (decide (p1 = 1)) = true then (!y1.1) else false)))), (10, (.ite (true && ((decide (p1 = 1)) == true)) (.d (.b (!y1.1))))), (9, (.ite (true && ((decide (p1 = 1)) == true)) (.d (.b y1.1)))), (8, (.ite (true && ((decide (p1 = 1)) == true)) (.ptr 1000000 0))), (7, (.d (.b (decide (p1 = 1))))), (6, (.d (.b (decide (p1 = 1))))), (5, (.d (.i .i64 p1))), (4, (.ptr 4 0)), (0, (.ptr 1000000 0)), (1, (.d (.i .i64 p1)))], [(4, [(.d (.i .i64 0)), (.d (.i .i64 0)), (.d (.s (bs [])))]), (1000000, bGL1Cur y1.2)]⟩) (by kernel_rfl) ?_
    refine callg_step ⟨[(1000000, 1000000)], [], [], [], [], [], [], []⟩ (m := sL1Below y1.2 5) (S' := fun (y : Int × GL1Cur) => ⟨[(13, (.d (.i .i64 y.1))), (12, (.ptr 1000000 0)), (11, (.d (.b (if (decide (p1 = 1)) = true then (!y1.1) else false)))), (10, (.ite (true && ((decide (p1 = 1)) == true)) (.d (.b (!y1.1))))), (9, (.ite (true && ((decide (p1 = 1)) == true)) (.d (.b y1.1)))), (8, (.ite (true && ((decide (p1 = 1)) == true)) (.ptr 1000000 0))), (7, (.d (.b (decide (p1 = 1))))), (6, (.d (.b (decide (p1 = 1))))), (5, (.d (.i .i64 p1))), (4, (.ptr 4 0)), (0, (.ptr 1000000 0)), (1, (.d (.i .i64 p1)))], [(4, [(.d (.i .i64 0)), (.d (.i .i64 0)), (.d (.s (bs [])))]), (1000000, bGL1Cur y.2)]⟩) h (OK_sL1Below y1.2 5) (by kernel_rfl) (by kernel_rfl) (by kernel_rfl) (by kernel_rfl) (fun y => by kernel_rfl) (fun y => by kernel_rfl) ?_
    clear h; intro y2 h
    refine sts_ok 1 (s' := ⟨[(14, (.d (.i .i64 (IntKind.wrap .i64 (y2.1 - 1))))), (13, (.d (.i .i64 y2.1))), (12, (.ptr 1000000 0)), (11, (.d (.b (if (decide (p1 = 1)) = true then (!y1.1) else false)))), (10, (.ite (true && ((decide (p1 = 1)) == true)) (.d (.b (!y1.1))))), (9, (.ite (true && ((decide (p1 = 1)) == true)) (.d (.b y1.1)))), (8, (.ite (true && ((decide (p1 = 1)) == true)) (.ptr 1000000 0))), (7, (.d (.b (decide (p1 = 1))))), (6, (.d (.b (decide (p1 = 1))))), (5, (.d (.i .i64 p1))), (4, (.ptr 4 0)), (0, (.ptr 1000000 0)), (1, (.d (.i .i64 p1)))], [(4, [(.d (.i .i64 0)), (.d (.i .i64 0)), (.d (.s (bs [])))]), (1000000, bGL1Cur y2.2)]⟩) (by kernel_rfl) ?_
    refine call_step (m := sIntValue (IntKind.wrap .i64 (y2.1 - 1))) (args := [(.d (.i .i64 (IntKind.wrap .i64 (y2.1 - 1))))]) (v' := (fun y => (vGValue y))) h (OK_sIntValue (IntKind.wrap .i64 (y2.1 - 1))) (by kernel_rfl) (by kernel_rfl) (fun _ => rfl) ?_
    clear h; intro y3 h
    refine sts_ok 1 (s' := ⟨[(15, (vGValue y3)), (14, (.d (.i .i64 (IntKind.wrap .i64 (y2.1 - 1))))), (13, (.d (.i .i64 y2.1))), (12, (.ptr 1000000 0)), (11, (.d (.b (if (decide (p1 = 1)) = true then (!y1.1) else false)))), (10, (.ite (true && ((decide (p1 = 1)) == true)) (.d (.b (!y1.1))))), (9, (.ite (true && ((decide (p1 = 1)) == true)) (.d (.b y1.1)))), (8, (.ite (true && ((decide (p1 = 1)) == true)) (.ptr 1000000 0))), (7, (.d (.b (decide (p1 = 1))))), (6, (.d (.b (decide (p1 = 1))))), (5, (.d (.i .i64 p1))), (4, (.ptr 4 0)), (0, (.ptr 1000000 0)), (1, (.d (.i .i64 p1)))], [(4, [(.d (.i .i64 y3.kind)), (.d (.i .i64 y3.num)), (.d (.s (bs y3.text)))]), (1000000, bGL1Cur y2.2)]⟩) (by kernel_rfl) ?_
    refine nil_in ?_
    refine next_in ?_
    refine ret_in ?_
    refine thenK_ret ?_
    have h := Option.some.inj h; subst h
    exact ret1_step (v := (vGValue y3)) (by kernel_rfl) (by kernel_rfl) ⟨by kernel_rfl, by kernel_rfl, trivial⟩
  · clear h; intro h
    refine skip_in ?_
    refine next_in ?_
    refine seq_in ?_
    refine ops_in ?_
    refine sts_ok 2 (s' := ⟨[(17, (.d (.i .i64 p1))), (16, (.ptr 1000000 0)), (11, (.d (.b (if (decide (p1 = 1)) = true then (!y1.1) else false)))), (10, (.ite (true && ((decide (p1 = 1)) == true)) (.d (.b (!y1.1))))), (9, (.ite (true && ((decide (p1 = 1)) == true)) (.d (.b y1.1)))), (8, (.ite (true && ((decide (p1 = 1)) == true)) (.ptr 1000000 0))), (7, (.d (.b (decide (p1 = 1))))), (6, (.d (.b (decide (p1 = 1))))), (5, (.d (.i .i64 p1))), (4, (.ptr 4 0)), (0, (.ptr 1000000 0)), (1, (.d (.i .i64 p1)))], [(4, [(.d (.i .i64 0)), (.d (.i .i64 0)), (.d (.s (bs [])))]), (1000000, bGL1Cur y1.2)]⟩) (by kernel_rfl) ?_
    refine callg_step ⟨[(1000000, 1000000)], [], [], [], [], [], [], []⟩ (m := sL6Typed y1.2 p1) (S' := fun (y : GValue × GL1Cur) => ⟨[(18, (vGValue y.1)), (17, (.d (.i .i64 p1))), (16, (.ptr 1000000 0)), (11, (.d (.b (if (decide (p1 = 1)) = true then (!y1.1) else false)))), (10, (.ite (true && ((decide (p1 = 1)) == true)) (.d (.b (!y1.1))))), (9, (.ite (true && ((decide (p1 = 1)) == true)) (.d (.b y1.1)))), (8, (.ite (true && ((decide (p1 = 1)) == true)) (.ptr 1000000 0))), (7, (.d (.b (decide (p1 = 1))))), (6, (.d (.b (decide (p1 = 1))))), (5, (.d (.i .i64 p1))), (4, (.ptr 4 0)), (0, (.ptr 1000000 0)), (1, (.d (.i .i64 p1)))], [(4, [(.d (.i .i64 0)), (.d (.i .i64 0)), (.d (.s (bs [])))]), (1000000, bGL1Cur y.2)]⟩) h (OK_sL6Typed y1.2 p1) (by kernel_rfl) (by kernel_rfl) (by kernel_rfl) (by kernel_rfl) (fun y => by kernel_rfl) (fun y => by kernel_rfl) ?_
    clear h; intro y4 h
    refine sts_ok 1 (s' := ⟨[(18, (vGValue y4.1)), (17, (.d (.i .i64 p1))), (16, (.ptr 1000000 0)), (11, (.d (.b (if (decide (p1 = 1)) = true then (!y1.1) else false)))), (10, (.ite (true && ((decide (p1 = 1)) == true)) (.d (.b (!y1.1))))), (9, (.ite (true && ((decide (p1 = 1)) == true)) (.d (.b y1.1)))), (8, (.ite (true && ((decide (p1 = 1)) == true)) (.ptr 1000000 0))), (7, (.d (.b (decide (p1 = 1))))), (6, (.d (.b (decide (p1 = 1))))), (5, (.d (.i .i64 p1))), (4, (.ptr 4 0)), (0, (.ptr 1000000 0)), (1, (.d (.i .i64 p1)))], [(4, [(.d (.i .i64 y4.1.kind)), (.d (.i .i64 y4.1.num)), (.d (.s (bs y4.1.text)))]), (1000000, bGL1Cur y4.2)]⟩) (by kernel_rfl) ?_
    refine nil_in ?_
    refine next_in ?_
    refine ret_in ?_
    have h := Option.some.inj h; subst h
    exact ret1_step (v := (vGValue y4.1)) (by kernel_rfl) (by kernel_rfl) ⟨by kernel_rfl, by kernel_rfl, trivial⟩
theorem OK_sL5Bent_J0 (b3_0 : Int) (b3_1 : Int) (b3_2 : (List UInt8)) (b1000000_0 : (List Int)) (b1000000_1 : Int) (b1000000_2 : Int) (r : GValue × GL1Cur) (h : sL5Bent_J0 b3_0 b3_1 b3_2 b1000000_0 b1000000_1 b1000000_2 = some r) : avc Try.prog acsL5Bent_J0 (qsL5Bent r) (stsL5Bent_J0 b3_0 b3_1 b3_2 b1000000_0 b1000000_1 b1000000_2) := by
  rw [sL5Bent_J0] at h
  delta acsL5Bent_J0
  refine seq_in ?_
  refine ops_in ?_
  refine sts_ok 2 (s' := ⟨(40, (vGValue (GValue.mk b3_0 b3_1 b3_2))) :: (stsL5Bent_J0 b3_0 b3_1 b3_2 b1000000_0 b1000000_1 b1000000_2).env, [(2, [(.d (.i .i64 b3_0)), (.d (.i .i64 b3_1)), (.d (.s (bs b3_2)))]), (3, [(.d (.i .i64 b3_0)), (.d (.i .i64 b3_1)), (.d (.s (bs b3_2)))]), (1000000, bGL1Cur (GL1Cur.mk b1000000_0 b1000000_1 b1000000_2))]⟩) (by kernel_rfl) ?_
  refine nil_in ?_
  refine next_in ?_
  refine ret_in ?_
  have h := Option.some.inj h; subst h
  exact ret1_step (v := (vGValue (GValue.mk b3_0 b3_1 b3_2))) (by kernel_rfl) (by kernel_rfl) ⟨by kernel_rfl, by kernel_rfl, trivial⟩
theorem OKs_sL5Bent_L1 (y1 : GValue × GL1Cur) : (∀ (b3_2_6 : (List UInt8)) (b1000000_0_7 : (List Int)) (b1000000_1_8 : Int) (b1000000_2_9 : Int) (r : GValue × GL1Cur), sL5Bent_L1 y1 b3_2_6 b1000000_0_7 b1000000_1_8 b1000000_2_9 = some r → avc Try.prog acsL5Bent_L1 (qsL5Bent_2 r) (stsL5Bent_L1 y1 b3_2_6 b1000000_0_7 b1000000_1_8 b1000000_2_9)) := by
  refine sL5Bent_L1.partial_correctness y1 (fun b3_2_6 b1000000_0_7 b1000000_1_8 b1000000_2_9 r => avc Try.prog acsL5Bent_L1 (qsL5Bent_2 r) (stsL5Bent_L1 y1 b3_2_6 b1000000_0_7 b1000000_1_8 b1000000_2_9)) ?_
  · intro F_sL5Bent_L1 OK_sL5Bent_L1 b3_2_6 b1000000_0_7 b1000000_1_8 b1000000_2_9 r h
    delta acsL5Bent_L1
    refine loop_unroll ?_
    refine seq_in ?_
    refine seq_in ?_
    refine ops_in ?_
    refine sts_ok 1 (s' := ⟨(25, (.ptr 1000000 0)) :: (stsL5Bent_L1 y1 b3_2_6 b1000000_0_7 b1000000_1_8 b1000000_2_9).env, (stsL5Bent_L1 y1 b3_2_6 b1000000_0_7 b1000000_1_8 b1000000_2_9).bx⟩) (by kernel_rfl) ?_
    refine callg_step ⟨[(1000000, 1000000)], [], [], [], [], [], [], []⟩ (m := sL1Once (GL1Cur.mk b1000000_0_7 b1000000_1_8 b1000000_2_9) 2) (S' := fun (y : Bool × GL1Cur) => ⟨(26, (.d (.b y.1))) :: (25, (.ptr 1000000 0)) :: (stsL5Bent_L1 y1 b3_2_6 b1000000_0_7 b1000000_1_8 b1000000_2_9).env, [(2, [(.d (.i .i64 0)), (.d (.i .i64 0)), (.d (.s (bs [])))]), (3, [(.d (.i .i64 y1.1.kind)), (.d (.i .i64 y1.1.num)), (.d (.s (bs b3_2_6)))]), (1000000, bGL1Cur y.2)]⟩) h (OK_sL1Once (GL1Cur.mk b1000000_0_7 b1000000_1_8 b1000000_2_9) 2) (by kernel_rfl) (by kernel_rfl) (by kernel_rfl) (by kernel_rfl) (fun y => by kernel_rfl) (fun y => by kernel_rfl) ?_
    clear h; intro y10 h
    refine sts_ok 1 (s' := ⟨(27, (.d (.b y10.1))) :: (26, (.d (.b y10.1))) :: (25, (.ptr 1000000 0)) :: (stsL5Bent_L1 y1 b3_2_6 b1000000_0_7 b1000000_1_8 b1000000_2_9).env, [(2, [(.d (.i .i64 0)), (.d (.i .i64 0)), (.d (.s (bs [])))]), (3, [(.d (.i .i64 y1.1.kind)), (.d (.i .i64 y1.1.num)), (.d (.s (bs b3_2_6)))]), (1000000, bGL1Cur y10.2)]⟩) (by kernel_rfl) ?_
    refine gp_step (p := true) (b := y10.1) (v' := (.ptr 3 2)) (by kernel_rfl) rfl rfl (fun hc => vop_val1 (by kernel_rfl) (by kernel_rfl)) ?_
    refine gp_step (p := true) (b := y10.1) (v' := (.d (.s (bs b3_2_6)))) (by kernel_rfl) rfl rfl (fun hc => vop_val1 (Eq.trans (b := ([(true && (y10.1 == true))] : List Bool).all id) (by kernel_rfl) (all_c hc rfl)) (by kernel_rfl)) ?_
    refine gp_step (p := true) (b := y10.1) (v' := (.d (.i .i64 (b3_2_6.length : Int)))) (by kernel_rfl) rfl rfl (fun hc => vop_val1 (Eq.trans (b := ([(true && (y10.1 == true))] : List Bool).all id) (by kernel_rfl) (all_c hc rfl)) (by kernel_rfl)) ?_
    refine gp_step (p := true) (b := y10.1) (v' := (.d (.b (decide ((b3_2_6.length : Int) < 400))))) (by kernel_rfl) rfl rfl (fun hc => vop_val1 (Eq.trans (b := ([(true && (y10.1 == true))] : List Bool).all id) (by kernel_rfl) (all_c hc rfl)) (by kernel_rfl)) ?_
    refine p_step (v' := (.d (.b (if y10.1 = true then (decide ((b3_2_6.length : Int) < 400)) else false)))) rfl rfl (vop_pick (b := y10.1) (p := (true && (y10.1 == true))) (u := (decide ((b3_2_6.length : Int) < 400))) (q := true) (v := false) (by kernel_rfl) (by kernel_rfl) (by kernel_rfl) (by kernel_rfl) (fun hb => gc_t rfl hb) (fun _ => rfl)) ?_
    refine nil_in ?_
    refine next_in ?_
    refine cond_step h (by kernel_rfl) ?_ ?_
    · clear h; intro h
      refine skip_in ?_
      refine next_in ?_
      refine block_in ?_
      refine ops_in ?_
      refine sts_ok 4 (s' := ⟨(36, (.d (.s (bs b3_2_6)))) :: (35, (.ptr 3 2)) :: (34, (.d (.s (bs b3_2_6)))) :: (33, (.ptr 3 2)) :: (32, (.d (.b (if y10.1 = true then (decide ((b3_2_6.length : Int) < 400)) else false)))) :: (31, (.ite (true && (y10.1 == true)) (.d (.b (decide ((b3_2_6.length : Int) < 400)))))) :: (30, (.ite (true && (y10.1 == true)) (.d (.i .i64 (b3_2_6.length : Int))))) :: (29, (.ite (true && (y10.1 == true)) (.d (.s (bs b3_2_6))))) :: (28, (.ite (true && (y10.1 == true)) (.ptr 3 2))) :: (27, (.d (.b y10.1))) :: (26, (.d (.b y10.1))) :: (25, (.ptr 1000000 0)) :: (stsL5Bent_L1 y1 b3_2_6 b1000000_0_7 b1000000_1_8 b1000000_2_9).env, [(2, [(.d (.i .i64 0)), (.d (.i .i64 0)), (.d (.s (bs [])))]), (3, [(.d (.i .i64 y1.1.kind)), (.d (.i .i64 y1.1.num)), (.d (.s (bs b3_2_6)))]), (1000000, bGL1Cur y10.2)]⟩) (by kernel_rfl) ?_
      refine v_step (m := catS b3_2_6 b3_2_6) (v' := fun y => (.d (.s (bs y)))) h rfl rfl (fun y hy => vop_cat (a := b3_2_6) (b := b3_2_6) hy (by kernel_rfl) (by kernel_rfl) (by kernel_rfl)) ?_
      clear h; intro y11 h
      refine v_step (m := catS y11 [48, 49, 50, 51, 52, 53, 54, 55, 56, 57]) (v' := fun y => (.d (.s (bs y)))) h rfl rfl (fun y hy => vop_cat (a := y11) (b := [48, 49, 50, 51, 52, 53, 54, 55, 56, 57]) hy (by kernel_rfl) (by kernel_rfl) (by kernel_rfl)) ?_
      clear h; intro y12 h
      refine sts_ok 2 (s' := ⟨(39, (.ptr 3 2)) :: (38, (.d (.s (bs y12)))) :: (37, (.d (.s (bs y11)))) :: (36, (.d (.s (bs b3_2_6)))) :: (35, (.ptr 3 2)) :: (34, (.d (.s (bs b3_2_6)))) :: (33, (.ptr 3 2)) :: (32, (.d (.b (if y10.1 = true then (decide ((b3_2_6.length : Int) < 400)) else false)))) :: (31, (.ite (true && (y10.1 == true)) (.d (.b (decide ((b3_2_6.length : Int) < 400)))))) :: (30, (.ite (true && (y10.1 == true)) (.d (.i .i64 (b3_2_6.length : Int))))) :: (29, (.ite (true && (y10.1 == true)) (.d (.s (bs b3_2_6))))) :: (28, (.ite (true && (y10.1 == true)) (.ptr 3 2))) :: (27, (.d (.b y10.1))) :: (26, (.d (.b y10.1))) :: (25, (.ptr 1000000 0)) :: (stsL5Bent_L1 y1 b3_2_6 b1000000_0_7 b1000000_1_8 b1000000_2_9).env, [(2, [(.d (.i .i64 0)), (.d (.i .i64 0)), (.d (.s (bs [])))]), (3, [(.d (.i .i64 y1.1.kind)), (.d (.i .i64 y1.1.num)), (.d (.s (bs y12)))]), (1000000, bGL1Cur y10.2)]⟩) (by kernel_rfl) ?_
      refine nil_in ?_
      refine blockK_norm ?_
      exact loop_back (s' := stsL5Bent_L1 y1 y12 y10.2.b y10.2.i y10.2.h) (wk_ren [] (by kernel_rfl) (er_cons (vr_same (by kernel_rfl) (by kernel_rfl)) (er_cons (vr_same (by kernel_rfl) (by kernel_rfl)) (er_cons (vr_same (by kernel_rfl) (by kernel_rfl)) (er_nil)))) (br_same (by kernel_rfl) (by kernel_rfl) (br_same (by kernel_rfl) (by kernel_rfl) (br_same (by kernel_rfl) (by kernel_rfl) (br_nil))))) (OK_sL5Bent_L1 y12 y10.2.b y10.2.i y10.2.h _ h)
    · clear h; intro h
      refine exit_in ?_
      refine thenK_exit ?_
      refine thenK_exit ?_
      refine blockK_here ?_
      refine blockK_norm ?_
      exact next_step (s' := stsL5Bent_J0 y1.1.kind y1.1.num b3_2_6 y10.2.b y10.2.i y10.2.h) (wk_ren [] (by kernel_rfl) (er_cons (vr_same (by kernel_rfl) (by kernel_rfl)) (er_cons (vr_same (by kernel_rfl) (by kernel_rfl)) (er_nil))) (br_same (by kernel_rfl) (by kernel_rfl) (br_same (by kernel_rfl) (by kernel_rfl) (br_same (by kernel_rfl) (by kernel_rfl) (br_nil))))) (OK_sL5Bent_J0 y1.1.kind y1.1.num b3_2_6 y10.2.b y10.2.i y10.2.h _ h)
theorem OK_sL5Bent_L1 (y1 : GValue × GL1Cur) (b3_2_6 : (List UInt8)) (b1000000_0_7 : (List Int)) (b1000000_1_8 : Int) (b1000000_2_9 : Int) (r : GValue × GL1Cur) (h : sL5Bent_L1 y1 b3_2_6 b1000000_0_7 b1000000_1_8 b1000000_2_9 = some r) : avc Try.prog acsL5Bent_L1 (qsL5Bent_2 r) (stsL5Bent_L1 y1 b3_2_6 b1000000_0_7 b1000000_1_8 b1000000_2_9) := (OKs_sL5Bent_L1 y1) b3_2_6 b1000000_0_7 b1000000_1_8 b1000000_2_9 r h
theorem OK_sL5Right (p0 : GL1Cur) : FOkB Try.prog 148 [(.ptr 1000000 0)] [(1000000, bGL1Cur p0)] (fun (y : GValue × GL1Cur) => (vGValue y.1)) (fun (y : GValue × GL1Cur) => [(1000000, bGL1Cur y.2)]) (sL5Right p0) := by
  intro r h
  rw [sL5Right] at h
  refine acalls_of_fn trsL5Right (Nat.le_of_ble_eq_true rfl) (by intro n hn; simp at hn; omega) ?_
  show avc Try.prog acsL5Right (qsL5Right _) ⟨[(0, (.ptr 1000000 0))], [(1000000, bGL1Cur p0)]⟩
  delta acsL5Right
  refine seq_in ?_
  refine ops_in ?_
  refine sts_ok 1 (s' := ⟨[(2, (.ptr 2 0)), (0, (.ptr 1000000 0))], [(2, [(.d (.i .i64 0)), (.d (.i .i64 0)), (.d (.s (bs [])))]), (1000000, bGL1Cur p0)]⟩) (by kernel_rfl) ?_
  refine nil_in ?_
  refine next_in ?_
  refine seq_in ?_
  refine seq_in ?_
  refine ops_in ?_
  refine sts_ok 1 (s' := ⟨[(3, (.ptr 1000000 0)), (2, (.ptr 2 0)), (0, (.ptr 1000000 0))], [(2, [(.d (.i .i64 0)), (.d (.i .i64 0)), (.d (.s (bs [])))]), (1000000, bGL1Cur p0)]⟩) (by kernel_rfl) ?_
  refine callg_step ⟨[(1000000, 1000000)], [], [], [], [], [], [], []⟩ (m := sL1Below p0 6) (S' := fun (y : Int × GL1Cur) => ⟨[(4, (.d (.i .i64 y.1))), (3, (.ptr 1000000 0)), (2, (.ptr 2 0)), (0, (.ptr 1000000 0))], [(2, [(.d (.i .i64 0)), (.d (.i .i64 0)), (.d (.s (bs [])))]), (1000000, bGL1Cur y.2)]⟩) h (OK_sL1Below p0 6) (by kernel_rfl) (by kernel_rfl) (by kernel_rfl) (by kernel_rfl) (fun y => by kernel_rfl) (fun y => by kernel_rfl) ?_
  clear h; intro y1 h
  refine nil_in ?_
  refine next_in ?_
  refine block_in ?_
  refine seq_in ?_
  refine ops_in ?_
  refine sts_ok 2 (s' := ⟨[(5, (.d (.b (decide (y1.1 = 0))))), (6, (.d (.b (decide (y1.1 = 0))))), (4, (.d (.i .i64 y1.1))), (3, (.ptr 1000000 0)), (2, (.ptr 2 0)), (0, (.ptr 1000000 0))], [(2, [(.d (.i .i64 0)), (.d (.i .i64 0)), (.d (.s (bs [])))]), (1000000, bGL1Cur y1.2)]⟩) (by kernel_rfl) ?_
  refine nil_in ?_
  refine next_in ?_
  refine cond_step h (by kernel_rfl) ?_ ?_
  · clear h; intro h
    refine seq_in ?_
    refine ops_in ?_
    refine sts_ok 2 (s' := ⟨[(7, (vGValue (GValue.mk 0 0 []))), (5, (.d (.b (decide (y1.1 = 0))))), (6, (.d (.b (decide (y1.1 = 0))))), (4, (.d (.i .i64 y1.1))), (3, (.ptr 1000000 0)), (2, (.ptr 2 0)), (0, (.ptr 1000000 0))], [(2, [(.d (.i .i64 0)), (.d (.i .i64 0)), (.d (.s (bs [])))]), (1000000, bGL1Cur y1.2)]⟩) (by kernel_rfl) ?_
    refine nil_in ?_
    refine next_in ?_
    refine ret_in ?_
    refine blockK_ret ?_
    refine thenK_ret ?_
    have h := Option.some.inj h; subst h
    exact ret1_step (v := (vGValue (GValue.mk 0 0 []))) (by kernel_rfl) (by kernel_rfl) ⟨by kernel_rfl, by kernel_rfl, trivial⟩
  · clear h; intro h
    refine seq_in ?_
    refine ops_in ?_
    refine sts_ok 2 (s' := ⟨[(8, (.d (.b (decide (y1.1 = 1))))), (9, (.d (.b (decide (y1.1 = 1))))), (5, (.d (.b (decide (y1.1 = 0))))), (6, (.d (.b (decide (y1.1 = 0))))), (4, (.d (.i .i64 y1.1))), (3, (.ptr 1000000 0)), (2, (.ptr 2 0)), (0, (.ptr 1000000 0))], [(2, [(.d (.i .i64 0)), (.d (.i .i64 0)), (.d (.s (bs [])))]), (1000000, bGL1Cur y1.2)]⟩) (by kernel_rfl) ?_
    refine nil_in ?_
    refine next_in ?_
    refine cond_step h (by kernel_rfl) ?_ ?_
    · clear h; intro h
      refine seq_in ?_
      refine ops_in ?_
      refine sts_ok 1 (s' := ⟨[(10, (.ptr 1000000 0)), (8, (.d (.b (decide (y1.1 = 1))))), (9, (.d (.b (decide (y1.1 = 1))))), (5, (.d (.b (decide (y1.1 = 0))))), (6, (.d (.b (decide (y1.1 = 0))))), (4, (.d (.i .i64 y1.1))), (3, (.ptr 1000000 0)), (2, (.ptr 2 0)), (0, (.ptr 1000000 0))], [(2, [(.d (.i .i64 0)), (.d (.i .i64 0)), (.d (.s (bs [])))]), (1000000, bGL1Cur y1.2)]⟩) (by kernel_rfl) ?_
      refine bsl_step (l := ([[], [97], [98], [105, 116, 39, 115], [97, 98], [255]] : List (List UInt8))) (f := cStr) (g := cStr) (by kernel_rfl) (fun _ => rfl) (by kernel_rfl) ?_
      refine callg_step ⟨[(1000000, 1000000)], [], [], [], [], [], [], []⟩ (m := sL1Pick y1.2 ([[], [97], [98], [105, 116, 39, 115], [97, 98], [255]] : List (List UInt8))) (S' := fun (y : (List UInt8) × GL1Cur) => ⟨[(12, (.d (.s (bs y.1)))), (11, (.osl 11 9 1 (([[], [97], [98], [105, 116, 39, 115], [97, 98], [255]] : List (List UInt8)).map cStr))), (10, (.ptr 1000000 0)), (8, (.d (.b (decide (y1.1 = 1))))), (9, (.d (.b (decide (y1.1 = 1))))), (5, (.d (.b (decide (y1.1 = 0))))), (6, (.d (.b (decide (y1.1 = 0))))), (4, (.d (.i .i64 y1.1))), (3, (.ptr 1000000 0)), (2, (.ptr 2 0)), (0, (.ptr 1000000 0))], [(2, [(.d (.i .i64 0)), (.d (.i .i64 0)), (.d (.s (bs [])))]), (1000000, bGL1Cur y.2)]⟩) h (OK_sL1Pick y1.2 ([[], [97], [98], [105, 116, 39, 115], [97, 98], [255]] : List (List UInt8))) (by kernel_rfl) (by kernel_rfl) (by kernel_rfl) (by kernel_rfl) (fun y => by kernel_rfl) (fun y => by kernel_rfl) ?_
      clear h; intro y2 h
      refine call_step (m := sTextValue y2.1) (args := [(.d (.s (bs y2.1)))]) (v' := (fun y => (vGValue y))) h (OK_sTextValue y2.1) (by kernel_rfl) (by kernel_rfl) (fun _ => rfl) ?_
      clear h; intro y3 h
      refine sts_ok 1 (s' := ⟨[(13, (vGValue y3)), (12, (.d (.s (bs y2.1)))), (11, (.osl 11 9 1 (([[], [97], [98], [105, 116, 39, 115], [97, 98], [255]] : List (List UInt8)).map cStr))), (10, (.ptr 1000000 0)), (8, (.d (.b (decide (y1.1 = 1))))), (9, (.d (.b (decide (y1.1 = 1))))), (5, (.d (.b (decide (y1.1 = 0))))), (6, (.d (.b (decide (y1.1 = 0))))), (4, (.d (.i .i64 y1.1))), (3, (.ptr 1000000 0)), (2, (.ptr 2 0)), (0, (.ptr 1000000 0))], [(2, [(.d (.i .i64 y3.kind)), (.d (.i .i64 y3.num)), (.d (.s (bs y3.text)))]), (1000000, bGL1Cur y2.2)]⟩) (by kernel_rfl) ?_
      refine nil_in ?_
      refine next_in ?_
      refine ret_in ?_
      refine blockK_ret ?_
      refine thenK_ret ?_
      have h := Option.some.inj h; subst h
      exact ret1_step (v := (vGValue y3)) (by kernel_rfl) (by kernel_rfl) ⟨by kernel_rfl, by kernel_rfl, trivial⟩
    · clear h; intro h
      refine seq_in ?_
      refine ops_in ?_
      refine sts_ok 2 (s' := ⟨[(14, (.d (.b (decide (y1.1 = 2))))), (15, (.d (.b (decide (y1.1 = 2))))), (8, (.d (.b (decide (y1.1 = 1))))), (9, (.d (.b (decide (y1.1 = 1))))), (5, (.d (.b (decide (y1.1 = 0))))), (6, (.d (.b (decide (y1.1 = 0))))), (4, (.d (.i .i64 y1.1))), (3, (.ptr 1000000 0)), (2, (.ptr 2 0)), (0, (.ptr 1000000 0))], [(2, [(.d (.i .i64 0)), (.d (.i .i64 0)), (.d (.s (bs [])))]), (1000000, bGL1Cur y1.2)]⟩) (by kernel_rfl) ?_
      refine nil_in ?_
      refine next_in ?_
      refine cond_step h (by kernel_rfl) ?_ ?_
      · clear h; intro h
        refine seq_in ?_
        refine ops_in ?_
        refine sts_ok 1 (s' := ⟨[(16, (.ptr 1000000 0)), (14, (.d (.b (decide (y1.1 = 2))))), (15, (.d (.b (decide (y1.1 = 2))))), (8, (.d (.b (decide (y1.1 = 1))))), (9, (.d (.b (decide (y1.1 = 1))))), (5, (.d (.b (decide (y1.1 = 0))))), (6, (.d (.b (decide (y1.1 = 0))))), (4, (.d (.i .i64 y1.1))), (3, (.ptr 1000000 0)), (2, (.ptr 2 0)), (0, (.ptr 1000000 0))], [(2, [(.d (.i .i64 0)), (.d (.i .i64 0)), (.d (.s (bs [])))]), (1000000, bGL1Cur y1.2)]⟩) (by kernel_rfl) ?_
        refine callg_step ⟨[(1000000, 1000000)], [], [], [], [], [], [], []⟩ (m := sL1Once y1.2 2) (S' := fun (y : Bool × GL1Cur) => ⟨[(17, (.d (.b y.1))), (16, (.ptr 1000000 0)), (14, (.d (.b (decide (y1.1 = 2))))), (15, (.d (.b (decide (y1.1 = 2))))), (8, (.d (.b (decide (y1.1 = 1))))), (9, (.d (.b (decide (y1.1 = 1))))), (5, (.d (.b (decide (y1.1 = 0))))), (6, (.d (.b (decide (y1.1 = 0))))), (4, (.d (.i .i64 y1.1))), (3, (.ptr 1000000 0)), (2, (.ptr 2 0)), (0, (.ptr 1000000 0))], [(2, [(.d (.i .i64 0)), (.d (.i .i64 0)), (.d (.s (bs [])))]), (1000000, bGL1Cur y.2)]⟩) h (OK_sL1Once y1.2 2) (by kernel_rfl) (by kernel_rfl) (by kernel_rfl) (by kernel_rfl) (fun y => by kernel_rfl) (fun y => by kernel_rfl) ?_
        clear h; intro y4 h
        refine call_step (m := sBoolValue y4.1) (args := [(.d (.b y4.1))]) (v' := (fun y => (vGValue y))) h (OK_sBoolValue y4.1) (by kernel_rfl) (by kernel_rfl) (fun _ => rfl) ?_
        clear h; intro y5 h
        refine sts_ok 1 (s' := ⟨[(18, (vGValue y5)), (17, (.d (.b y4.1))), (16, (.ptr 1000000 0)), (14, (.d (.b (decide (y1.1 = 2))))), (15, (.d (.b (decide (y1.1 = 2))))), (8, (.d (.b (decide (y1.1 = 1))))), (9, (.d (.b (decide (y1.1 = 1))))), (5, (.d (.b (decide (y1.1 = 0))))), (6, (.d (.b (decide (y1.1 = 0))))), (4, (.d (.i .i64 y1.1))), (3, (.ptr 1000000 0)), (2, (.ptr 2 0)), (0, (.ptr 1000000 0))], [(2, [(.d (.i .i64 y5.kind)), (.d (.i .i64 y5.num)), (.d (.s (bs y5.text)))]), (1000000, bGL1Cur y4.2)]⟩) (by kernel_rfl) ?_
        refine nil_in ?_
        refine next_in ?_
        refine ret_in ?_
        refine blockK_ret ?_
        refine thenK_ret ?_
        have h := Option.some.inj h; subst h
        exact ret1_step (v := (vGValue y5)) (by kernel_rfl) (by kernel_rfl) ⟨by kernel_rfl, by kernel_rfl, trivial⟩
      · clear h; intro h
        refine seq_in ?_
        refine ops_in ?_
        refine sts_ok 2 (s' := ⟨[(19, (.d (.b (decide (y1.1 = 3))))), (20, (.d (.b (decide (y1.1 = 3))))), (14, (.d (.b (decide (y1.1 = 2))))), (15, (.d (.b (decide (y1.1 = 2))))), (8, (.d (.b (decide (y1.1 = 1))))), (9, (.d (.b (decide (y1.1 = 1))))), (5, (.d (.b (decide (y1.1 = 0))))), (6, (.d (.b (decide (y1.1 = 0))))), (4, (.d (.i .i64 y1.1))), (3, (.ptr 1000000 0)), (2, (.ptr 2 0)), (0, (.ptr 1000000 0))], [(2, [(.d (.i .i64 0)), (.d (.i .i64 0)), (.d (.s (bs [])))]), (1000000, bGL1Cur y1.2)]⟩) (by kernel_rfl) ?_
        refine nil_in ?_
        refine next_in ?_
        refine cond_step h (by kernel_rfl) ?_ ?_
        · clear h; intro h
          refine seq_in ?_
          refine ops_in ?_
          refine sts_ok 1 (s' := ⟨[(21, (.ptr 1000000 0)), (19, (.d (.b (decide (y1.1 = 3))))), (20, (.d (.b (decide (y1.1 = 3))))), (14, (.d (.b (decide (y1.1 = 2))))), (15, (.d (.b (decide (y1.1 = 2))))), (8, (.d (.b (decide (y1.1 = 1))))), (9, (.d (.b (decide (y1.1 = 1))))), (5, (.d (.b (decide (y1.1 = 0))))), (6, (.d (.b (decide (y1.1 = 0))))), (4, (.d (.i .i64 y1.1))), (3, (.ptr 1000000 0)), (2, (.ptr 2 0)), (0, (.ptr 1000000 0))], [(2, [(.d (.i .i64 0)), (.d (.i .i64 0)), (.d (.s (bs [])))]), (1000000, bGL1Cur y1.2)]⟩) (by kernel_rfl) ?_
          refine callg_step ⟨[(1000000, 1000000)], [], [], [], [], [], [], []⟩ (m := sL1Whole y1.2) (S' := fun (y : Int × GL1Cur) => ⟨[(22, (.d (.i .i64 y.1))), (21, (.ptr 1000000 0)), (19, (.d (.b (decide (y1.1 = 3))))), (20, (.d (.b (decide (y1.1 = 3))))), (14, (.d (.b (decide (y1.1 = 2))))), (15, (.d (.b (decide (y1.1 = 2))))), (8, (.d (.b (decide (y1.1 = 1))))), (9, (.d (.b (decide (y1.1 = 1))))), (5, (.d (.b (decide (y1.1 = 0))))), (6, (.d (.b (decide (y1.1 = 0))))), (4, (.d (.i .i64 y1.1))), (3, (.ptr 1000000 0)), (2, (.ptr 2 0)), (0, (.ptr 1000000 0))], [(2, [(.d (.i .i64 0)), (.d (.i .i64 0)), (.d (.s (bs [])))]), (1000000, bGL1Cur y.2)]⟩) h (OK_sL1Whole y1.2) (by kernel_rfl) (by kernel_rfl) (by kernel_rfl) (by kernel_rfl) (fun y => by kernel_rfl) (fun y => by kernel_rfl) ?_
          clear h; intro y6 h
          refine call_step (m := sIntValue y6.1) (args := [(.d (.i .i64 y6.1))]) (v' := (fun y => (vGValue y))) h (OK_sIntValue y6.1) (by kernel_rfl) (by kernel_rfl) (fun _ => rfl) ?_
          clear h; intro y7 h
          refine sts_ok 1 (s' := ⟨[(23, (vGValue y7)), (22, (.d (.i .i64 y6.1))), (21, (.ptr 1000000 0)), (19, (.d (.b (decide (y1.1 = 3))))), (20, (.d (.b (decide (y1.1 = 3))))), (14, (.d (.b (decide (y1.1 = 2))))), (15, (.d (.b (decide (y1.1 = 2))))), (8, (.d (.b (decide (y1.1 = 1))))), (9, (.d (.b (decide (y1.1 = 1))))), (5, (.d (.b (decide (y1.1 = 0))))), (6, (.d (.b (decide (y1.1 = 0))))), (4, (.d (.i .i64 y1.1))), (3, (.ptr 1000000 0)), (2, (.ptr 2 0)), (0, (.ptr 1000000 0))], [(2, [(.d (.i .i64 y7.kind)), (.d (.i .i64 y7.num)), (.d (.s (bs y7.text)))]), (1000000, bGL1Cur y6.2)]⟩) (by kernel_rfl) ?_
          refine nil_in ?_
          refine next_in ?_
          refine ret_in ?_
          refine blockK_ret ?_
          refine thenK_ret ?_
          have h := Option.some.inj h; subst h
          exact ret1_step (v := (vGValue y7)) (by kernel_rfl) (by kernel_rfl) ⟨by kernel_rfl, by kernel_rfl, trivial⟩
        · clear h; intro h
          refine skip_in ?_
          refine blockK_norm ?_
          refine next_in ?_
          refine seq_in ?_
          refine ops_in ?_
          refine sts_ok 1 (s' := ⟨[(24, (.ptr 1000000 0)), (19, (.d (.b (decide (y1.1 = 3))))), (20, (.d (.b (decide (y1.1 = 3))))), (14, (.d (.b (decide (y1.1 = 2))))), (15, (.d (.b (decide (y1.1 = 2))))), (8, (.d (.b (decide (y1.1 = 1))))), (9, (.d (.b (decide (y1.1 = 1))))), (5, (.d (.b (decide (y1.1 = 0))))), (6, (.d (.b (decide (y1.1 = 0))))), (4, (.d (.i .i64 y1.1))), (3, (.ptr 1000000 0)), (2, (.ptr 2 0)), (0, (.ptr 1000000 0))], [(2, [(.d (.i .i64 0)), (.d (.i .i64 0)), (.d (.s (bs [])))]), (1000000, bGL1Cur y1.2)]⟩) (by kernel_rfl) ?_
          refine callg_step ⟨[(1000000, 1000000)], [], [], [], [], [], [], []⟩ (m := sL1Below y1.2 7) (S' := fun (y : Int × GL1Cur) => ⟨[(25, (.d (.i .i64 y.1))), (24, (.ptr 1000000 0)), (19, (.d (.b (decide (y1.1 = 3))))), (20, (.d (.b (decide (y1.1 = 3))))), (14, (.d (.b (decide (y1.1 = 2))))), (15, (.d (.b (decide (y1.1 = 2))))), (8, (.d (.b (decide (y1.1 = 1))))), (9, (.d (.b (decide (y1.1 = 1))))), (5, (.d (.b (decide (y1.1 = 0))))), (6, (.d (.b (decide (y1.1 = 0))))), (4, (.d (.i .i64 y1.1))), (3, (.ptr 1000000 0)), (2, (.ptr 2 0)), (0, (.ptr 1000000 0))], [(2, [(.d (.i .i64 0)), (.d (.i .i64 0)), (.d (.s (bs [])))]), (1000000, bGL1Cur y.2)]⟩) h (OK_sL1Below y1.2 7) (by kernel_rfl) (by kernel_rfl) (by kernel_rfl) (by kernel_rfl) (fun y => by kernel_rfl) (fun y => by kernel_rfl) ?_
          clear h; intro y8 h
          refine sts_ok 1 (s' := ⟨[(26, (.d (.i .i64 (IntKind.wrap .i64 (y8.1 - 2))))), (25, (.d (.i .i64 y8.1))), (24, (.ptr 1000000 0)), (19, (.d (.b (decide (y1.1 = 3))))), (20, (.d (.b (decide (y1.1 = 3))))), (14, (.d (.b (decide (y1.1 = 2))))), (15, (.d (.b (decide (y1.1 = 2))))), (8, (.d (.b (decide (y1.1 = 1))))), (9, (.d (.b (decide (y1.1 = 1))))), (5, (.d (.b (decide (y1.1 = 0))))), (6, (.d (.b (decide (y1.1 = 0))))), (4, (.d (.i .i64 y1.1))), (3, (.ptr 1000000 0)), (2, (.ptr 2 0)), (0, (.ptr 1000000 0))], [(2, [(.d (.i .i64 0)), (.d (.i .i64 0)), (.d (.s (bs [])))]), (1000000, bGL1Cur y8.2)]⟩) (by kernel_rfl) ?_
          refine call_step (m := sIntValue (IntKind.wrap .i64 (y8.1 - 2))) (args := [(.d (.i .i64 (IntKind.wrap .i64 (y8.1 - 2))))]) (v' := (fun y => (vGValue y))) h (OK_sIntValue (IntKind.wrap .i64 (y8.1 - 2))) (by kernel_rfl) (by kernel_rfl) (fun _ => rfl) ?_
          clear h; intro y9 h
          refine sts_ok 1 (s' := ⟨[(27, (vGValue y9)), (26, (.d (.i .i64 (IntKind.wrap .i64 (y8.1 - 2))))), (25, (.d (.i .i64 y8.1))), (24, (.ptr 1000000 0)), (19, (.d (.b (decide (y1.1 = 3))))), (20, (.d (.b (decide (y1.1 = 3))))), (14, (.d (.b (decide (y1.1 = 2))))), (15, (.d (.b (decide (y1.1 = 2))))), (8, (.d (.b (decide (y1.1 = 1))))), (9, (.d (.b (decide (y1.1 = 1))))), (5, (.d (.b (decide (y1.1 = 0))))), (6, (.d (.b (decide (y1.1 = 0))))), (4, (.d (.i .i64 y1.1))), (3, (.ptr 1000000 0)), (2, (.ptr 2 0)), (0, (.ptr 1000000 0))], [(2, [(.d (.i .i64 y9.kind)), (.d (.i .i64 y9.num)), (.d (.s (bs y9.text)))]), (1000000, bGL1Cur y8.2)]⟩) (by kernel_rfl) ?_
          refine nil_in ?_
          refine next_in ?_
          refine ret_in ?_
          have h := Option.some.inj h; subst h
          exact ret1_step (v := (vGValue y9)) (by kernel_rfl) (by kernel_rfl) ⟨by kernel_rfl, by kernel_rfl, trivial⟩
theorem OK_sL5Bent (p0 : GL1Cur) : FOkB Try.prog 78 [(.ptr 1000000 0)] [(1000000, bGL1Cur p0)] (fun (y : GValue × GL1Cur) => (vGValue y.1)) (fun (y : GValue × GL1Cur) => [(1000000, bGL1Cur y.2)]) (sL5Bent p0) := by
  intro r h
  rw [sL5Bent] at h
  refine acalls_of_fn trsL5Bent (Nat.le_of_ble_eq_true rfl) (by intro n hn; simp at hn; omega) ?_
  show avc Try.prog acsL5Bent (qsL5Bent _) ⟨[(0, (.ptr 1000000 0))], [(1000000, bGL1Cur p0)]⟩
  delta acsL5Bent
  refine seq_in ?_
  refine ops_in ?_
  refine sts_ok 1 (s' := ⟨[(2, (.ptr 2 0)), (0, (.ptr 1000000 0))], [(2, [(.d (.i .i64 0)), (.d (.i .i64 0)), (.d (.s (bs [])))]), (1000000, bGL1Cur p0)]⟩) (by kernel_rfl) ?_
  refine nil_in ?_
  refine next_in ?_
  refine seq_in ?_
  refine ops_in ?_
  refine sts_ok 1 (s' := ⟨[(4, (.ptr 1000000 0)), (2, (.ptr 2 0)), (0, (.ptr 1000000 0))], [(2, [(.d (.i .i64 0)), (.d (.i .i64 0)), (.d (.s (bs [])))]), (1000000, bGL1Cur p0)]⟩) (by kernel_rfl) ?_
  refine callg_step ⟨[(1000000, 1000000)], [], [], [], [], [], [], []⟩ (m := sL5Right p0) (S' := fun (y : GValue × GL1Cur) => ⟨[(5, (vGValue y.1)), (4, (.ptr 1000000 0)), (2, (.ptr 2 0)), (0, (.ptr 1000000 0))], [(2, [(.d (.i .i64 0)), (.d (.i .i64 0)), (.d (.s (bs [])))]), (1000000, bGL1Cur y.2)]⟩) h (OK_sL5Right p0) (by kernel_rfl) (by kernel_rfl) (by kernel_rfl) (by kernel_rfl) (fun y => by kernel_rfl) (fun y => by kernel_rfl) ?_
  clear h; intro y1 h
  refine sts_ok 2 (s' := ⟨[(3, (.ptr 3 0)), (5, (vGValue y1.1)), (4, (.ptr 1000000 0)), (2, (.ptr 2 0)), (0, (.ptr 1000000 0))], [(3, [(.d (.i .i64 y1.1.kind)), (.d (.i .i64 y1.1.num)), (.d (.s (bs y1.1.text)))]), (2, [(.d (.i .i64 0)), (.d (.i .i64 0)), (.d (.s (bs [])))]), (1000000, bGL1Cur y1.2)]⟩) (by kernel_rfl) ?_
  refine nil_in ?_
  refine next_in ?_
  refine seq_in ?_
  refine seq_in ?_
  refine ops_in ?_
  refine sts_ok 1 (s' := ⟨[(6, (.ptr 1000000 0)), (3, (.ptr 3 0)), (5, (vGValue y1.1)), (4, (.ptr 1000000 0)), (2, (.ptr 2 0)), (0, (.ptr 1000000 0))], [(3, [(.d (.i .i64 y1.1.kind)), (.d (.i .i64 y1.1.num)), (.d (.s (bs y1.1.text)))]), (2, [(.d (.i .i64 0)), (.d (.i .i64 0)), (.d (.s (bs [])))]), (1000000, bGL1Cur y1.2)]⟩) (by kernel_rfl) ?_
  refine callg_step ⟨[(1000000, 1000000)], [], [], [], [], [], [], []⟩ (m := sL1Below y1.2 14) (S' := fun (y : Int × GL1Cur) => ⟨[(7, (.d (.i .i64 y.1))), (6, (.ptr 1000000 0)), (3, (.ptr 3 0)), (5, (vGValue y1.1)), (4, (.ptr 1000000 0)), (2, (.ptr 2 0)), (0, (.ptr 1000000 0))], [(3, [(.d (.i .i64 y1.1.kind)), (.d (.i .i64 y1.1.num)), (.d (.s (bs y1.1.text)))]), (2, [(.d (.i .i64 0)), (.d (.i .i64 0)), (.d (.s (bs [])))]), (1000000, bGL1Cur y.2)]⟩) h (OK_sL1Below y1.2 14) (by kernel_rfl) (by kernel_rfl) (by kernel_rfl) (by kernel_rfl) (fun y => by kernel_rfl) (fun y => by kernel_rfl) ?_
  clear h; intro y2 h
  refine nil_in ?_
  refine next_in ?_
  refine block_in ?_
  refine seq_in ?_
  refine ops_in ?_
  refine sts_ok 2 (s' := ⟨[(8, (.d (.b (decide (y2.1 = 0))))), (9, (.d (.b (decide (y2.1 = 0))))), (7, (.d (.i .i64 y2.1))), (6, (.ptr 1000000 0)), (3, (.ptr 3 0)), (5, (vGValue y1.1)), (4, (.ptr 1000000 0)), (2, (.ptr 2 0)), (0, (.ptr 1000000 0))], [(3, [(.d (.i .i64 y1.1.kind)), (.d (.i .i64 y1.1.num)), (.d (.s (bs y1.1.text)))]), (2, [(.d (.i .i64 0)), (.d (.i .i64 0)), (.d (.s (bs [])))]), (1000000, bGL1Cur y2.2)]⟩) (by kernel_rfl) ?_
  refine nil_in ?_
  refine next_in ?_
  refine cond_step h (by kernel_rfl) ?_ ?_
  · clear h; intro h
    refine ops_in ?_
    refine sts_ok 1 (s' := ⟨[(10, (.ptr 1000000 0)), (8, (.d (.b (decide (y2.1 = 0))))), (9, (.d (.b (decide (y2.1 = 0))))), (7, (.d (.i .i64 y2.1))), (6, (.ptr 1000000 0)), (3, (.ptr 3 0)), (5, (vGValue y1.1)), (4, (.ptr 1000000 0)), (2, (.ptr 2 0)), (0, (.ptr 1000000 0))], [(3, [(.d (.i .i64 y1.1.kind)), (.d (.i .i64 y1.1.num)), (.d (.s (bs y1.1.text)))]), (2, [(.d (.i .i64 0)), (.d (.i .i64 0)), (.d (.s (bs [])))]), (1000000, bGL1Cur y2.2)]⟩) (by kernel_rfl) ?_
    refine callg_step ⟨[(1000000, 1000000)], [], [], [], [], [], [], []⟩ (m := sL1Below y2.2 6) (S' := fun (y : Int × GL1Cur) => ⟨[(11, (.d (.i .i64 y.1))), (10, (.ptr 1000000 0)), (8, (.d (.b (decide (y2.1 = 0))))), (9, (.d (.b (decide (y2.1 = 0))))), (7, (.d (.i .i64 y2.1))), (6, (.ptr 1000000 0)), (3, (.ptr 3 0)), (5, (vGValue y1.1)), (4, (.ptr 1000000 0)), (2, (.ptr 2 0)), (0, (.ptr 1000000 0))], [(3, [(.d (.i .i64 y1.1.kind)), (.d (.i .i64 y1.1.num)), (.d (.s (bs y1.1.text)))]), (2, [(.d (.i .i64 0)), (.d (.i .i64 0)), (.d (.s (bs [])))]), (1000000, bGL1Cur y.2)]⟩) h (OK_sL1Below y2.2 6) (by kernel_rfl) (by kernel_rfl) (by kernel_rfl) (by kernel_rfl) (fun y => by kernel_rfl) (fun y => by kernel_rfl) ?_
    clear h; intro y3 h
    refine sts_ok 3 (s' := ⟨[(13, (.ptr 3 0)), (12, (.d (.i .i64 (IntKind.wrap .i64 (y3.1 - 1))))), (11, (.d (.i .i64 y3.1))), (10, (.ptr 1000000 0)), (8, (.d (.b (decide (y2.1 = 0))))), (9, (.d (.b (decide (y2.1 = 0))))), (7, (.d (.i .i64 y2.1))), (6, (.ptr 1000000 0)), (3, (.ptr 3 0)), (5, (vGValue y1.1)), (4, (.ptr 1000000 0)), (2, (.ptr 2 0)), (0, (.ptr 1000000 0))], [(3, [(.d (.i .i64 (IntKind.wrap .i64 (y3.1 - 1)))), (.d (.i .i64 y1.1.num)), (.d (.s (bs y1.1.text)))]), (2, [(.d (.i .i64 0)), (.d (.i .i64 0)), (.d (.s (bs [])))]), (1000000, bGL1Cur y3.2)]⟩) (by kernel_rfl) ?_
    refine nil_in ?_
    refine blockK_norm ?_
    exact next_step (s' := stsL5Bent_J0 (IntKind.wrap .i64 (y3.1 - 1)) y1.1.num y1.1.text y3.2.b y3.2.i y3.2.h) (wk_ren [] (by kernel_rfl) (er_cons (vr_same (by kernel_rfl) (by kernel_rfl)) (er_cons (vr_same (by kernel_rfl) (by kernel_rfl)) (er_nil))) (br_same (by kernel_rfl) (by kernel_rfl) (br_same (by kernel_rfl) (by kernel_rfl) (br_same (by kernel_rfl) (by kernel_rfl) (br_nil))))) (OK_sL5Bent_J0 (IntKind.wrap .i64 (y3.1 - 1)) y1.1.num y1.1.text y3.2.b y3.2.i y3.2.h _ h)
  · clear h; intro h
    refine seq_in ?_
    refine ops_in ?_
    refine sts_ok 2 (s' := ⟨[(14, (.d (.b (decide (y2.1 = 1))))), (15, (.d (.b (decide (y2.1 = 1))))), (8, (.d (.b (decide (y2.1 = 0))))), (9, (.d (.b (decide (y2.1 = 0))))), (7, (.d (.i .i64 y2.1))), (6, (.ptr 1000000 0)), (3, (.ptr 3 0)), (5, (vGValue y1.1)), (4, (.ptr 1000000 0)), (2, (.ptr 2 0)), (0, (.ptr 1000000 0))], [(3, [(.d (.i .i64 y1.1.kind)), (.d (.i .i64 y1.1.num)), (.d (.s (bs y1.1.text)))]), (2, [(.d (.i .i64 0)), (.d (.i .i64 0)), (.d (.s (bs [])))]), (1000000, bGL1Cur y2.2)]⟩) (by kernel_rfl) ?_
    refine nil_in ?_
    refine next_in ?_
    refine cond_step h (by kernel_rfl) ?_ ?_
    · clear h; intro h
      refine ops_in ?_
      refine sts_ok 1 (s' := ⟨[(16, (.ptr 1000000 0)), (14, (.d (.b (decide (y2.1 = 1))))), (15, (.d (.b (decide (y2.1 = 1))))), (8, (.d (.b (decide (y2.1 = 0))))), (9, (.d (.b (decide (y2.1 = 0))))), (7, (.d (.i .i64 y2.1))), (6, (.ptr 1000000 0)), (3, (.ptr 3 0)), (5, (vGValue y1.1)), (4, (.ptr 1000000 0)), (2, (.ptr 2 0)), (0, (.ptr 1000000 0))], [(3, [(.d (.i .i64 y1.1.kind)), (.d (.i .i64 y1.1.num)), (.d (.s (bs y1.1.text)))]), (2, [(.d (.i .i64 0)), (.d (.i .i64 0)), (.d (.s (bs [])))]), (1000000, bGL1Cur y2.2)]⟩) (by kernel_rfl) ?_
      refine callg_step ⟨[(1000000, 1000000)], [], [], [], [], [], [], []⟩ (m := sL1Whole y2.2) (S' := fun (y : Int × GL1Cur) => ⟨[(17, (.d (.i .i64 y.1))), (16, (.ptr 1000000 0)), (14, (.d (.b (decide (y2.1 = 1))))), (15, (.d (.b (decide (y2.1 = 1))))), (8, (.d (.b (decide (y2.1 = 0))))), (9, (.d (.b (decide (y2.1 = 0))))), (7, (.d (.i .i64 y2.1))), (6, (.ptr 1000000 0)), (3, (.ptr 3 0)), (5, (vGValue y1.1)), (4, (.ptr 1000000 0)), (2, (.ptr 2 0)), (0, (.ptr 1000000 0))], [(3, [(.d (.i .i64 y1.1.kind)), (.d (.i .i64 y1.1.num)), (.d (.s (bs y1.1.text)))]), (2, [(.d (.i .i64 0)), (.d (.i .i64 0)), (.d (.s (bs [])))]), (1000000, bGL1Cur y.2)]⟩) h (OK_sL1Whole y2.2) (by kernel_rfl) (by kernel_rfl) (by kernel_rfl) (by kernel_rfl) (fun y => by kernel_rfl) (fun y => by kernel_rfl) ?_
      clear h; intro y4 h
      refine sts_ok 2 (s' := ⟨[(18, (.ptr 3 1)), (17, (.d (.i .i64 y4.1))), (16, (.ptr 1000000 0)), (14, (.d (.b (decide (y2.1 = 1))))), (15, (.d (.b (decide (y2.1 = 1))))), (8, (.d (.b (decide (y2.1 = 0))))), (9, (.d (.b (decide (y2.1 = 0))))), (7, (.d (.i .i64 y2.1))), (6, (.ptr 1000000 0)), (3, (.ptr 3 0)), (5, (vGValue y1.1)), (4, (.ptr 1000000 0)), (2, (.ptr 2 0)), (0, (.ptr 1000000 0))], [(3, [(.d (.i .i64 y1.1.kind)), (.d (.i .i64 y4.1)), (.d (.s (bs y1.1.text)))]), (2, [(.d (.i .i64 0)), (.d (.i .i64 0)), (.d (.s (bs [])))]), (1000000, bGL1Cur y4.2)]⟩) (by kernel_rfl) ?_
      refine nil_in ?_
      refine blockK_norm ?_
      exact next_step (s' := stsL5Bent_J0 y1.1.kind y4.1 y1.1.text y4.2.b y4.2.i y4.2.h) (wk_ren [] (by kernel_rfl) (er_cons (vr_same (by kernel_rfl) (by kernel_rfl)) (er_cons (vr_same (by kernel_rfl) (by kernel_rfl)) (er_nil))) (br_same (by kernel_rfl) (by kernel_rfl) (br_same (by kernel_rfl) (by kernel_rfl) (br_same (by kernel_rfl) (by kernel_rfl) (br_nil))))) (OK_sL5Bent_J0 y1.1.kind y4.1 y1.1.text y4.2.b y4.2.i y4.2.h _ h)
    · clear h; intro h
      refine seq_in ?_
      refine ops_in ?_
      refine sts_ok 2 (s' := ⟨[(19, (.d (.b (decide (y2.1 = 2))))), (20, (.d (.b (decide (y2.1 = 2))))), (14, (.d (.b (decide (y2.1 = 1))))), (15, (.d (.b (decide (y2.1 = 1))))), (8, (.d (.b (decide (y2.1 = 0))))), (9, (.d (.b (decide (y2.1 = 0))))), (7, (.d (.i .i64 y2.1))), (6, (.ptr 1000000 0)), (3, (.ptr 3 0)), (5, (vGValue y1.1)), (4, (.ptr 1000000 0)), (2, (.ptr 2 0)), (0, (.ptr 1000000 0))], [(3, [(.d (.i .i64 y1.1.kind)), (.d (.i .i64 y1.1.num)), (.d (.s (bs y1.1.text)))]), (2, [(.d (.i .i64 0)), (.d (.i .i64 0)), (.d (.s (bs [])))]), (1000000, bGL1Cur y2.2)]⟩) (by kernel_rfl) ?_
      refine nil_in ?_
      refine next_in ?_
      refine cond_step h (by kernel_rfl) ?_ ?_
      · clear h; intro h
        refine seq_in ?_
        refine ops_in ?_
        refine sts_ok 1 (s' := ⟨[(21, (.ptr 1000000 0)), (19, (.d (.b (decide (y2.1 = 2))))), (20, (.d (.b (decide (y2.1 = 2))))), (14, (.d (.b (decide (y2.1 = 1))))), (15, (.d (.b (decide (y2.1 = 1))))), (8, (.d (.b (decide (y2.1 = 0))))), (9, (.d (.b (decide (y2.1 = 0))))), (7, (.d (.i .i64 y2.1))), (6, (.ptr 1000000 0)), (3, (.ptr 3 0)), (5, (vGValue y1.1)), (4, (.ptr 1000000 0)), (2, (.ptr 2 0)), (0, (.ptr 1000000 0))], [(3, [(.d (.i .i64 y1.1.kind)), (.d (.i .i64 y1.1.num)), (.d (.s (bs y1.1.text)))]), (2, [(.d (.i .i64 0)), (.d (.i .i64 0)), (.d (.s (bs [])))]), (1000000, bGL1Cur y2.2)]⟩) (by kernel_rfl) ?_
        refine bsl_step (l := ([[120], [], [108, 111, 110, 103]] : List (List UInt8))) (f := cStr) (g := cStr) (by kernel_rfl) (fun _ => rfl) (by kernel_rfl) ?_
        refine callg_step ⟨[(1000000, 1000000)], [], [], [], [], [], [], []⟩ (m := sL1Pick y2.2 ([[120], [], [108, 111, 110, 103]] : List (List UInt8))) (S' := fun (y : (List UInt8) × GL1Cur) => ⟨[(23, (.d (.s (bs y.1)))), (22, (.osl 22 9 1 (([[120], [], [108, 111, 110, 103]] : List (List UInt8)).map cStr))), (21, (.ptr 1000000 0)), (19, (.d (.b (decide (y2.1 = 2))))), (20, (.d (.b (decide (y2.1 = 2))))), (14, (.d (.b (decide (y2.1 = 1))))), (15, (.d (.b (decide (y2.1 = 1))))), (8, (.d (.b (decide (y2.1 = 0))))), (9, (.d (.b (decide (y2.1 = 0))))), (7, (.d (.i .i64 y2.1))), (6, (.ptr 1000000 0)), (3, (.ptr 3 0)), (5, (vGValue y1.1)), (4, (.ptr 1000000 0)), (2, (.ptr 2 0)), (0, (.ptr 1000000 0))], [(3, [(.d (.i .i64 y1.1.kind)), (.d (.i .i64 y1.1.num)), (.d (.s (bs y1.1.text)))]), (2, [(.d (.i .i64 0)), (.d (.i .i64 0)), (.d (.s (bs [])))]), (1000000, bGL1Cur y.2)]⟩) h (OK_sL1Pick y2.2 ([[120], [], [108, 111, 110, 103]] : List (List UInt8))) (by kernel_rfl) (by kernel_rfl) (by kernel_rfl) (by kernel_rfl) (fun y => by kernel_rfl) (fun y => by kernel_rfl) ?_
        clear h; intro y5 h
        refine sts_ok 2 (s' := ⟨[(24, (.ptr 3 2)), (23, (.d (.s (bs y5.1)))), (22, (.osl 22 9 1 (([[120], [], [108, 111, 110, 103]] : List (List UInt8)).map cStr))), (21, (.ptr 1000000 0)), (19, (.d (.b (decide (y2.1 = 2))))), (20, (.d (.b (decide (y2.1 = 2))))), (14, (.d (.b (decide (y2.1 = 1))))), (15, (.d (.b (decide (y2.1 = 1))))), (8, (.d (.b (decide (y2.1 = 0))))), (9, (.d (.b (decide (y2.1 = 0))))), (7, (.d (.i .i64 y2.1))), (6, (.ptr 1000000 0)), (3, (.ptr 3 0)), (5, (vGValue y1.1)), (4, (.ptr 1000000 0)), (2, (.ptr 2 0)), (0, (.ptr 1000000 0))], [(3, [(.d (.i .i64 y1.1.kind)), (.d (.i .i64 y1.1.num)), (.d (.s (bs y5.1)))]), (2, [(.d (.i .i64 0)), (.d (.i .i64 0)), (.d (.s (bs [])))]), (1000000, bGL1Cur y5.2)]⟩) (by kernel_rfl) ?_
        refine nil_in ?_
        refine next_in ?_
        refine block_in ?_
        exact loop_go (s' := stsL5Bent_L1 y1 y5.1 y5.2.b y5.2.i y5.2.h) (wk_ren [] (by kernel_rfl) (er_cons (vr_same (by kernel_rfl) (by kernel_rfl)) (er_cons (vr_same (by kernel_rfl) (by kernel_rfl)) (er_cons (vr_same (by kernel_rfl) (by kernel_rfl)) (er_nil)))) (br_same (by kernel_rfl) (by kernel_rfl) (br_same (by kernel_rfl) (by kernel_rfl) (br_same (by kernel_rfl) (by kernel_rfl) (br_nil))))) (OK_sL5Bent_L1 y1 y5.1 y5.2.b y5.2.i y5.2.h _ h)
      · clear h; intro h
        refine skip_in ?_
        refine blockK_norm ?_
        exact next_step (s' := stsL5Bent_J0 y1.1.kind y1.1.num y1.1.text y2.2.b y2.2.i y2.2.h) (wk_ren [] (by kernel_rfl) (er_cons (vr_same (by kernel_rfl) (by kernel_rfl)) (er_cons (vr_same (by kernel_rfl) (by kernel_rfl)) (er_nil))) (br_same (by kernel_rfl) (by kernel_rfl) (br_same (by kernel_rfl) (by kernel_rfl) (br_same (by kernel_rfl) (by kernel_rfl) (br_nil))))) (OK_sL5Bent_J0 y1.1.kind y1.1.num y1.1.text y2.2.b y2.2.i y2.2.h _ h)
theorem OK_sDrawBetween (p0 : (List Int)) : FOk Try.prog 35 [(.d (.sl 1 (p0.map cU8)))] (fun y => (.tup [(vGValue y.1), (vGValue y.2.1), (vGValue y.2.2)])) (sDrawBetween p0) := by
  intro r h
  rw [sDrawBetween] at h
  refine acalls_of_fn trsDrawBetween (Nat.le_of_ble_eq_true rfl) (by simp) ?_
  show avc Try.prog acsDrawBetween (qsDrawBetween _) ⟨[(0, (.d (.sl 1 (p0.map cU8))))], []⟩
  delta acsDrawBetween
  refine seq_in ?_
  refine ops_in ?_
  refine sts_ok 3 (s' := ⟨[(4, (.ptr 4 0)), (3, (.ptr 3 0)), (2, (.ptr 2 0)), (0, (.d (.sl 1 (p0.map cU8))))], [(4, [(.d (.i .i64 0)), (.d (.i .i64 0)), (.d (.s (bs [])))]), (3, [(.d (.i .i64 0)), (.d (.i .i64 0)), (.d (.s (bs [])))]), (2, [(.d (.i .i64 0)), (.d (.i .i64 0)), (.d (.s (bs [])))])]⟩) (by kernel_rfl) ?_
  refine nil_in ?_
  refine next_in ?_
  refine seq_in ?_
  refine ops_in ?_
  refine sts_ok 1 (s' := ⟨[(7, (.d (.sl 1 (p0.map cU8)))), (4, (.ptr 4 0)), (3, (.ptr 3 0)), (2, (.ptr 2 0)), (0, (.d (.sl 1 (p0.map cU8))))], [(4, [(.d (.i .i64 0)), (.d (.i .i64 0)), (.d (.s (bs [])))]), (3, [(.d (.i .i64 0)), (.d (.i .i64 0)), (.d (.s (bs [])))]), (2, [(.d (.i .i64 0)), (.d (.i .i64 0)), (.d (.s (bs [])))])]⟩) (by kernel_rfl) ?_
  refine callg_step ⟨[], [], [], [], [], [], [(31, 8)], []⟩ (m := sL1New p0) (S' := fun (y : GL1Cur) => ⟨[(8, (.ptr 8 0)), (7, (.d (.sl 1 (p0.map cU8)))), (4, (.ptr 4 0)), (3, (.ptr 3 0)), (2, (.ptr 2 0)), (0, (.d (.sl 1 (p0.map cU8))))], [(8, bGL1Cur y), (4, [(.d (.i .i64 0)), (.d (.i .i64 0)), (.d (.s (bs [])))]), (3, [(.d (.i .i64 0)), (.d (.i .i64 0)), (.d (.s (bs [])))]), (2, [(.d (.i .i64 0)), (.d (.i .i64 0)), (.d (.s (bs [])))])]⟩) h (OK_sL1New p0) (by kernel_rfl) (by kernel_rfl) (by kernel_rfl) (by kernel_rfl) (fun y => by kernel_rfl) (fun y => by kernel_rfl) ?_
  clear h; intro y1 h
  refine sts_ok 1 (s' := ⟨[(5, (.ptr 8 0)), (8, (.ptr 8 0)), (7, (.d (.sl 1 (p0.map cU8)))), (4, (.ptr 4 0)), (3, (.ptr 3 0)), (2, (.ptr 2 0)), (0, (.d (.sl 1 (p0.map cU8))))], [(8, bGL1Cur y1), (4, [(.d (.i .i64 0)), (.d (.i .i64 0)), (.d (.s (bs [])))]), (3, [(.d (.i .i64 0)), (.d (.i .i64 0)), (.d (.s (bs [])))]), (2, [(.d (.i .i64 0)), (.d (.i .i64 0)), (.d (.s (bs [])))])]⟩) (by kernel_rfl) ?_
  refine nil_in ?_
  refine next_in ?_
  refine seq_in ?_
  refine ops_in ?_
  refine sts_ok 1 (s' := ⟨[(9, (.ptr 8 0)), (5, (.ptr 8 0)), (8, (.ptr 8 0)), (7, (.d (.sl 1 (p0.map cU8)))), (4, (.ptr 4 0)), (3, (.ptr 3 0)), (2, (.ptr 2 0)), (0, (.d (.sl 1 (p0.map cU8))))], [(8, bGL1Cur y1), (4, [(.d (.i .i64 0)), (.d (.i .i64 0)), (.d (.s (bs [])))]), (3, [(.d (.i .i64 0)), (.d (.i .i64 0)), (.d (.s (bs [])))]), (2, [(.d (.i .i64 0)), (.d (.i .i64 0)), (.d (.s (bs [])))])]⟩) (by kernel_rfl) ?_
  refine callg_step ⟨[(1000000, 8)], [], [], [], [], [], [], []⟩ (m := sL1Below y1 3) (S' := fun (y : Int × GL1Cur) => ⟨[(10, (.d (.i .i64 y.1))), (9, (.ptr 8 0)), (5, (.ptr 8 0)), (8, (.ptr 8 0)), (7, (.d (.sl 1 (p0.map cU8)))), (4, (.ptr 4 0)), (3, (.ptr 3 0)), (2, (.ptr 2 0)), (0, (.d (.sl 1 (p0.map cU8))))], [(8, bGL1Cur y.2), (4, [(.d (.i .i64 0)), (.d (.i .i64 0)), (.d (.s (bs [])))]), (3, [(.d (.i .i64 0)), (.d (.i .i64 0)), (.d (.s (bs [])))]), (2, [(.d (.i .i64 0)), (.d (.i .i64 0)), (.d (.s (bs [])))])]⟩) h (OK_sL1Below y1 3) (by kernel_rfl) (by kernel_rfl) (by kernel_rfl) (by kernel_rfl) (fun y => by kernel_rfl) (fun y => by kernel_rfl) ?_
  clear h; intro y2 h
  refine sts_ok 2 (s' := ⟨[(6, (.d (.i .i64 (IntKind.wrap .i64 (1 + y2.1))))), (11, (.d (.i .i64 (IntKind.wrap .i64 (1 + y2.1))))), (10, (.d (.i .i64 y2.1))), (9, (.ptr 8 0)), (5, (.ptr 8 0)), (8, (.ptr 8 0)), (7, (.d (.sl 1 (p0.map cU8)))), (4, (.ptr 4 0)), (3, (.ptr 3 0)), (2, (.ptr 2 0)), (0, (.d (.sl 1 (p0.map cU8))))], [(8, bGL1Cur y2.2), (4, [(.d (.i .i64 0)), (.d (.i .i64 0)), (.d (.s (bs [])))]), (3, [(.d (.i .i64 0)), (.d (.i .i64 0)), (.d (.s (bs [])))]), (2, [(.d (.i .i64 0)), (.d (.i .i64 0)), (.d (.s (bs [])))])]⟩) (by kernel_rfl) ?_
  refine nil_in ?_
  refine next_in ?_
  refine seq_in ?_
  refine seq_in ?_
  refine ops_in ?_
  refine sts_ok 1 (s' := ⟨[(12, (.ptr 8 0)), (6, (.d (.i .i64 (IntKind.wrap .i64 (1 + y2.1))))), (11, (.d (.i .i64 (IntKind.wrap .i64 (1 + y2.1))))), (10, (.d (.i .i64 y2.1))), (9, (.ptr 8 0)), (5, (.ptr 8 0)), (8, (.ptr 8 0)), (7, (.d (.sl 1 (p0.map cU8)))), (4, (.ptr 4 0)), (3, (.ptr 3 0)), (2, (.ptr 2 0)), (0, (.d (.sl 1 (p0.map cU8))))], [(8, bGL1Cur y2.2), (4, [(.d (.i .i64 0)), (.d (.i .i64 0)), (.d (.s (bs [])))]), (3, [(.d (.i .i64 0)), (.d (.i .i64 0)), (.d (.s (bs [])))]), (2, [(.d (.i .i64 0)), (.d (.i .i64 0)), (.d (.s (bs [])))])]⟩) (by kernel_rfl) ?_
  refine callg_step ⟨[(1000000, 8)], [], [], [], [], [], [], []⟩ (m := sL1Once y2.2 5) (S' := fun (y : Bool × GL1Cur) => ⟨[(13, (.d (.b y.1))), (12, (.ptr 8 0)), (6, (.d (.i .i64 (IntKind.wrap .i64 (1 + y2.1))))), (11, (.d (.i .i64 (IntKind.wrap .i64 (1 + y2.1))))), (10, (.d (.i .i64 y2.1))), (9, (.ptr 8 0)), (5, (.ptr 8 0)), (8, (.ptr 8 0)), (7, (.d (.sl 1 (p0.map cU8)))), (4, (.ptr 4 0)), (3, (.ptr 3 0)), (2, (.ptr 2 0)), (0, (.d (.sl 1 (p0.map cU8))))], [(8, bGL1Cur y.2), (4, [(.d (.i .i64 0)), (.d (.i .i64 0)), (.d (.s (bs [])))]), (3, [(.d (.i .i64 0)), (.d (.i .i64 0)), (.d (.s (bs [])))]), (2, [(.d (.i .i64 0)), (.d (.i .i64 0)), (.d (.s (bs [])))])]⟩) h (OK_sL1Once y2.2 5) (by kernel_rfl) (by kernel_rfl) (by kernel_rfl) (by kernel_rfl) (fun y => by kernel_rfl) (fun y => by kernel_rfl) ?_
  clear h; intro y3 h
  refine nil_in ?_
  refine next_in ?_
  refine cond_step h (by kernel_rfl) ?_ ?_
  · clear h; intro h
    refine seq_in ?_
    refine ops_in ?_
    refine sts_ok 1 (s' := ⟨[(14, (.ptr 8 0)), (13, (.d (.b y3.1))), (12, (.ptr 8 0)), (6, (.d (.i .i64 (IntKind.wrap .i64 (1 + y2.1))))), (11, (.d (.i .i64 (IntKind.wrap .i64 (1 + y2.1))))), (10, (.d (.i .i64 y2.1))), (9, (.ptr 8 0)), (5, (.ptr 8 0)), (8, (.ptr 8 0)), (7, (.d (.sl 1 (p0.map cU8)))), (4, (.ptr 4 0)), (3, (.ptr 3 0)), (2, (.ptr 2 0)), (0, (.d (.sl 1 (p0.map cU8))))], [(8, bGL1Cur y3.2), (4, [(.d (.i .i64 0)), (.d (.i .i64 0)), (.d (.s (bs [])))]), (3, [(.d (.i .i64 0)), (.d (.i .i64 0)), (.d (.s (bs [])))]), (2, [(.d (.i .i64 0)), (.d (.i .i64 0)), (.d (.s (bs [])))])]⟩) (by kernel_rfl) ?_
    refine callg_step ⟨[(1000000, 8)], [], [], [], [], [], [], []⟩ (m := sL5Bent y3.2) (S' := fun (y : GValue × GL1Cur) => ⟨[(15, (vGValue y.1)), (14, (.ptr 8 0)), (13, (.d (.b y3.1))), (12, (.ptr 8 0)), (6, (.d (.i .i64 (IntKind.wrap .i64 (1 + y2.1))))), (11, (.d (.i .i64 (IntKind.wrap .i64 (1 + y2.1))))), (10, (.d (.i .i64 y2.1))), (9, (.ptr 8 0)), (5, (.ptr 8 0)), (8, (.ptr 8 0)), (7, (.d (.sl 1 (p0.map cU8)))), (4, (.ptr 4 0)), (3, (.ptr 3 0)), (2, (.ptr 2 0)), (0, (.d (.sl 1 (p0.map cU8))))], [(8, bGL1Cur y.2), (4, [(.d (.i .i64 0)), (.d (.i .i64 0)), (.d (.s (bs [])))]), (3, [(.d (.i .i64 0)), (.d (.i .i64 0)), (.d (.s (bs [])))]), (2, [(.d (.i .i64 0)), (.d (.i .i64 0)), (.d (.s (bs [])))])]⟩) h (OK_sL5Bent y3.2) (by kernel_rfl) (by kernel_rfl) (by kernel_rfl) (by kernel_rfl) (fun y => by kernel_rfl) (fun y => by kernel_rfl) ?_
    clear h; intro y4 h
    refine sts_ok 1 (s' := ⟨[(16, (.ptr 8 0)), (15, (vGValue y4.1)), (14, (.ptr 8 0)), (13, (.d (.b y3.1))), (12, (.ptr 8 0)), (6, (.d (.i .i64 (IntKind.wrap .i64 (1 + y2.1))))), (11, (.d (.i .i64 (IntKind.wrap .i64 (1 + y2.1))))), (10, (.d (.i .i64 y2.1))), (9, (.ptr 8 0)), (5, (.ptr 8 0)), (8, (.ptr 8 0)), (7, (.d (.sl 1 (p0.map cU8)))), (4, (.ptr 4 0)), (3, (.ptr 3 0)), (2, (.ptr 2 0)), (0, (.d (.sl 1 (p0.map cU8))))], [(8, bGL1Cur y4.2), (4, [(.d (.i .i64 0)), (.d (.i .i64 0)), (.d (.s (bs [])))]), (3, [(.d (.i .i64 0)), (.d (.i .i64 0)), (.d (.s (bs [])))]), (2, [(.d (.i .i64 0)), (.d (.i .i64 0)), (.d (.s (bs [])))])]⟩) (by kernel_rfl) ?_
    refine callg_step ⟨[(1000000, 8)], [], [], [], [], [], [], []⟩ (m := sL5Bent y4.2) (S' := fun (y : GValue × GL1Cur) => ⟨[(17, (vGValue y.1)), (16, (.ptr 8 0)), (15, (vGValue y4.1)), (14, (.ptr 8 0)), (13, (.d (.b y3.1))), (12, (.ptr 8 0)), (6, (.d (.i .i64 (IntKind.wrap .i64 (1 + y2.1))))), (11, (.d (.i .i64 (IntKind.wrap .i64 (1 + y2.1))))), (10, (.d (.i .i64 y2.1))), (9, (.ptr 8 0)), (5, (.ptr 8 0)), (8, (.ptr 8 0)), (7, (.d (.sl 1 (p0.map cU8)))), (4, (.ptr 4 0)), (3, (.ptr 3 0)), (2, (.ptr 2 0)), (0, (.d (.sl 1 (p0.map cU8))))], [(8, bGL1Cur y.2), (4, [(.d (.i .i64 0)), (.d (.i .i64 0)), (.d (.s (bs [])))]), (3, [(.d (.i .i64 0)), (.d (.i .i64 0)), (.d (.s (bs [])))]), (2, [(.d (.i .i64 0)), (.d (.i .i64 0)), (.d (.s (bs [])))])]⟩) h (OK_sL5Bent y4.2) (by kernel_rfl) (by kernel_rfl) (by kernel_rfl) (by kernel_rfl) (fun y => by kernel_rfl) (fun y => by kernel_rfl) ?_
    clear h; intro y5 h
    refine sts_ok 1 (s' := ⟨[(18, (.ptr 8 0)), (17, (vGValue y5.1)), (16, (.ptr 8 0)), (15, (vGValue y4.1)), (14, (.ptr 8 0)), (13, (.d (.b y3.1))), (12, (.ptr 8 0)), (6, (.d (.i .i64 (IntKind.wrap .i64 (1 + y2.1))))), (11, (.d (.i .i64 (IntKind.wrap .i64 (1 + y2.1))))), (10, (.d (.i .i64 y2.1))), (9, (.ptr 8 0)), (5, (.ptr 8 0)), (8, (.ptr 8 0)), (7, (.d (.sl 1 (p0.map cU8)))), (4, (.ptr 4 0)), (3, (.ptr 3 0)), (2, (.ptr 2 0)), (0, (.d (.sl 1 (p0.map cU8))))], [(8, bGL1Cur y5.2), (4, [(.d (.i .i64 0)), (.d (.i .i64 0)), (.d (.s (bs [])))]), (3, [(.d (.i .i64 0)), (.d (.i .i64 0)), (.d (.s (bs [])))]), (2, [(.d (.i .i64 0)), (.d (.i .i64 0)), (.d (.s (bs [])))])]⟩) (by kernel_rfl) ?_
    refine callg_step ⟨[(1000000, 8)], [], [], [], [], [], [], []⟩ (m := sL5Bent y5.2) (S' := fun (y : GValue × GL1Cur) => ⟨[(19, (vGValue y.1)), (18, (.ptr 8 0)), (17, (vGValue y5.1)), (16, (.ptr 8 0)), (15, (vGValue y4.1)), (14, (.ptr 8 0)), (13, (.d (.b y3.1))), (12, (.ptr 8 0)), (6, (.d (.i .i64 (IntKind.wrap .i64 (1 + y2.1))))), (11, (.d (.i .i64 (IntKind.wrap .i64 (1 + y2.1))))), (10, (.d (.i .i64 y2.1))), (9, (.ptr 8 0)), (5, (.ptr 8 0)), (8, (.ptr 8 0)), (7, (.d (.sl 1 (p0.map cU8)))), (4, (.ptr 4 0)), (3, (.ptr 3 0)), (2, (.ptr 2 0)), (0, (.d (.sl 1 (p0.map cU8))))], [(8, bGL1Cur y.2), (4, [(.d (.i .i64 0)), (.d (.i .i64 0)), (.d (.s (bs [])))]), (3, [(.d (.i .i64 0)), (.d (.i .i64 0)), (.d (.s (bs [])))]), (2, [(.d (.i .i64 0)), (.d (.i .i64 0)), (.d (.s (bs [])))])]⟩) h (OK_sL5Bent y5.2) (by kernel_rfl) (by kernel_rfl) (by kernel_rfl) (by kernel_rfl) (fun y => by kernel_rfl) (fun y => by kernel_rfl) ?_
    clear h; intro y6 h
    refine sts_ok 3 (s' := ⟨[(19, (vGValue y6.1)), (18, (.ptr 8 0)), (17, (vGValue y5.1)), (16, (.ptr 8 0)), (15, (vGValue y4.1)), (14, (.ptr 8 0)), (13, (.d (.b y3.1))), (12, (.ptr 8 0)), (6, (.d (.i .i64 (IntKind.wrap .i64 (1 + y2.1))))), (11, (.d (.i .i64 (IntKind.wrap .i64 (1 + y2.1))))), (10, (.d (.i .i64 y2.1))), (9, (.ptr 8 0)), (5, (.ptr 8 0)), (8, (.ptr 8 0)), (7, (.d (.sl 1 (p0.map cU8)))), (4, (.ptr 4 0)), (3, (.ptr 3 0)), (2, (.ptr 2 0)), (0, (.d (.sl 1 (p0.map cU8))))], [(8, bGL1Cur y6.2), (4, [(.d (.i .i64 y6.1.kind)), (.d (.i .i64 y6.1.num)), (.d (.s (bs y6.1.text)))]), (3, [(.d (.i .i64 y5.1.kind)), (.d (.i .i64 y5.1.num)), (.d (.s (bs y5.1.text)))]), (2, [(.d (.i .i64 y4.1.kind)), (.d (.i .i64 y4.1.num)), (.d (.s (bs y4.1.text)))])]⟩) (by kernel_rfl) ?_
    refine nil_in ?_
    refine next_in ?_
    refine ret_in ?_
    refine thenK_ret ?_
    have h := Option.some.inj h; subst h
    exact retn_step (vs := [(vGValue y4.1), (vGValue y5.1), (vGValue y6.1)]) (by kernel_rfl) (by kernel_rfl)
  · clear h; intro h
    refine skip_in ?_
    refine next_in ?_
    refine seq_in ?_
    refine ops_in ?_
    refine sts_ok 2 (s' := ⟨[(21, (.d (.i .i64 (IntKind.wrap .i64 (1 + y2.1))))), (20, (.ptr 8 0)), (13, (.d (.b y3.1))), (12, (.ptr 8 0)), (6, (.d (.i .i64 (IntKind.wrap .i64 (1 + y2.1))))), (11, (.d (.i .i64 (IntKind.wrap .i64 (1 + y2.1))))), (10, (.d (.i .i64 y2.1))), (9, (.ptr 8 0)), (5, (.ptr 8 0)), (8, (.ptr 8 0)), (7, (.d (.sl 1 (p0.map cU8)))), (4, (.ptr 4 0)), (3, (.ptr 3 0)), (2, (.ptr 2 0)), (0, (.d (.sl 1 (p0.map cU8))))], [(8, bGL1Cur y3.2), (4, [(.d (.i .i64 0)), (.d (.i .i64 0)), (.d (.s (bs [])))]), (3, [(.d (.i .i64 0)), (.d (.i .i64 0)), (.d (.s (bs [])))]), (2, [(.d (.i .i64 0)), (.d (.i .i64 0)), (.d (.s (bs [])))])]⟩) (by kernel_rfl) ?_
    refine callg_step ⟨[(1000000, 8)], [], [], [], [], [], [], []⟩ (m := sL26Value y3.2 (IntKind.wrap .i64 (1 + y2.1))) (S' := fun (y : GValue × GL1Cur) => ⟨[(22, (vGValue y.1)), (21, (.d (.i .i64 (IntKind.wrap .i64 (1 + y2.1))))), (20, (.ptr 8 0)), (13, (.d (.b y3.1))), (12, (.ptr 8 0)), (6, (.d (.i .i64 (IntKind.wrap .i64 (1 + y2.1))))), (11, (.d (.i .i64 (IntKind.wrap .i64 (1 + y2.1))))), (10, (.d (.i .i64 y2.1))), (9, (.ptr 8 0)), (5, (.ptr 8 0)), (8, (.ptr 8 0)), (7, (.d (.sl 1 (p0.map cU8)))), (4, (.ptr 4 0)), (3, (.ptr 3 0)), (2, (.ptr 2 0)), (0, (.d (.sl 1 (p0.map cU8))))], [(8, bGL1Cur y.2), (4, [(.d (.i .i64 0)), (.d (.i .i64 0)), (.d (.s (bs [])))]), (3, [(.d (.i .i64 0)), (.d (.i .i64 0)), (.d (.s (bs [])))]), (2, [(.d (.i .i64 0)), (.d (.i .i64 0)), (.d (.s (bs [])))])]⟩) h (OK_sL26Value y3.2 (IntKind.wrap .i64 (1 + y2.1))) (by kernel_rfl) (by kernel_rfl) (by kernel_rfl) (by kernel_rfl) (fun y => by kernel_rfl) (fun y => by kernel_rfl) ?_
    clear h; intro y7 h
    refine sts_ok 2 (s' := ⟨[(24, (.d (.i .i64 (IntKind.wrap .i64 (1 + y2.1))))), (23, (.ptr 8 0)), (22, (vGValue y7.1)), (21, (.d (.i .i64 (IntKind.wrap .i64 (1 + y2.1))))), (20, (.ptr 8 0)), (13, (.d (.b y3.1))), (12, (.ptr 8 0)), (6, (.d (.i .i64 (IntKind.wrap .i64 (1 + y2.1))))), (11, (.d (.i .i64 (IntKind.wrap .i64 (1 + y2.1))))), (10, (.d (.i .i64 y2.1))), (9, (.ptr 8 0)), (5, (.ptr 8 0)), (8, (.ptr 8 0)), (7, (.d (.sl 1 (p0.map cU8)))), (4, (.ptr 4 0)), (3, (.ptr 3 0)), (2, (.ptr 2 0)), (0, (.d (.sl 1 (p0.map cU8))))], [(8, bGL1Cur y7.2), (4, [(.d (.i .i64 0)), (.d (.i .i64 0)), (.d (.s (bs [])))]), (3, [(.d (.i .i64 0)), (.d (.i .i64 0)), (.d (.s (bs [])))]), (2, [(.d (.i .i64 0)), (.d (.i .i64 0)), (.d (.s (bs [])))])]⟩) (by kernel_rfl) ?_
    refine callg_step ⟨[(1000000, 8)], [], [], [], [], [], [], []⟩ (m := sL26Value y7.2 (IntKind.wrap .i64 (1 + y2.1))) (S' := fun (y : GValue × GL1Cur) => ⟨[(25, (vGValue y.1)), (24, (.d (.i .i64 (IntKind.wrap .i64 (1 + y2.1))))), (23, (.ptr 8 0)), (22, (vGValue y7.1)), (21, (.d (.i .i64 (IntKind.wrap .i64 (1 + y2.1))))), (20, (.ptr 8 0)), (13, (.d (.b y3.1))), (12, (.ptr 8 0)), (6, (.d (.i .i64 (IntKind.wrap .i64 (1 + y2.1))))), (11, (.d (.i .i64 (IntKind.wrap .i64 (1 + y2.1))))), (10, (.d (.i .i64 y2.1))), (9, (.ptr 8 0)), (5, (.ptr 8 0)), (8, (.ptr 8 0)), (7, (.d (.sl 1 (p0.map cU8)))), (4, (.ptr 4 0)), (3, (.ptr 3 0)), (2, (.ptr 2 0)), (0, (.d (.sl 1 (p0.map cU8))))], [(8, bGL1Cur y.2), (4, [(.d (.i .i64 0)), (.d (.i .i64 0)), (.d (.s (bs [])))]), (3, [(.d (.i .i64 0)), (.d (.i .i64 0)), (.d (.s (bs [])))]), (2, [(.d (.i .i64 0)), (.d (.i .i64 0)), (.d (.s (bs [])))])]⟩) h (OK_sL26Value y7.2 (IntKind.wrap .i64 (1 + y2.1))) (by kernel_rfl) (by kernel_rfl) (by kernel_rfl) (by kernel_rfl) (fun y => by kernel_rfl) (fun y => by kernel_rfl) ?_
    clear h; intro y8 h
    refine sts_ok 2 (s' := ⟨[(27, (.d (.i .i64 (IntKind.wrap .i64 (1 + y2.1))))), (26, (.ptr 8 0)), (25, (vGValue y8.1)), (24, (.d (.i .i64 (IntKind.wrap .i64 (1 + y2.1))))), (23, (.ptr 8 0)), (22, (vGValue y7.1)), (21, (.d (.i .i64 (IntKind.wrap .i64 (1 + y2.1))))), (20, (.ptr 8 0)), (13, (.d (.b y3.1))), (12, (.ptr 8 0)), (6, (.d (.i .i64 (IntKind.wrap .i64 (1 + y2.1))))), (11, (.d (.i .i64 (IntKind.wrap .i64 (1 + y2.1))))), (10, (.d (.i .i64 y2.1))), (9, (.ptr 8 0)), (5, (.ptr 8 0)), (8, (.ptr 8 0)), (7, (.d (.sl 1 (p0.map cU8)))), (4, (.ptr 4 0)), (3, (.ptr 3 0)), (2, (.ptr 2 0)), (0, (.d (.sl 1 (p0.map cU8))))], [(8, bGL1Cur y8.2), (4, [(.d (.i .i64 0)), (.d (.i .i64 0)), (.d (.s (bs [])))]), (3, [(.d (.i .i64 0)), (.d (.i .i64 0)), (.d (.s (bs [])))]), (2, [(.d (.i .i64 0)), (.d (.i .i64 0)), (.d (.s (bs [])))])]⟩) (by kernel_rfl) ?_
    refine callg_step ⟨[(1000000, 8)], [], [], [], [], [], [], []⟩ (m := sL26Value y8.2 (IntKind.wrap .i64 (1 + y2.1))) (S' := fun (y : GValue × GL1Cur) => ⟨[(28, (vGValue y.1)), (27, (.d (.i .i64 (IntKind.wrap .i64 (1 + y2.1))))), (26, (.ptr 8 0)), (25, (vGValue y8.1)), (24, (.d (.i .i64 (IntKind.wrap .i64 (1 + y2.1))))), (23, (.ptr 8 0)), (22, (vGValue y7.1)), (21, (.d (.i .i64 (IntKind.wrap .i64 (1 + y2.1))))), (20, (.ptr 8 0)), (13, (.d (.b y3.1))), (12, (.ptr 8 0)), (6, (.d (.i .i64 (IntKind.wrap .i64 (1 + y2.1))))), (11, (.d (.i .i64 (IntKind.wrap .i64 (1 + y2.1))))), (10, (.d (.i .i64 y2.1))), (9, (.ptr 8 0)), (5, (.ptr 8 0)), (8, (.ptr 8 0)), (7, (.d (.sl 1 (p0.map cU8)))), (4, (.ptr 4 0)), (3, (.ptr 3 0)), (2, (.ptr 2 0)), (0, (.d (.sl 1 (p0.map cU8))))], [(8, bGL1Cur y.2), (4, [(.d (.i .i64 0)), (.d (.i .i64 0)), (.d (.s (bs [])))]), (3, [(.d (.i .i64 0)), (.d (.i .i64 0)), (.d (.s (bs [])))]), (2, [(.d (.i .i64 0)), (.d (.i .i64 0)), (.d (.s (bs [])))])]⟩) h (OK_sL26Value y8.2 (IntKind.wrap .i64 (1 + y2.1))) (by kernel_rfl) (by kernel_rfl) (by kernel_rfl) (by kernel_rfl) (fun y => by kernel_rfl) (fun y => by kernel_rfl) ?_
    clear h; intro y9 h
    refine sts_ok 3 (s' := ⟨[(28, (vGValue y9.1)), (27, (.d (.i .i64 (IntKind.wrap .i64 (1 + y2.1))))), (26, (.ptr 8 0)), (25, (vGValue y8.1)), (24, (.d (.i .i64 (IntKind.wrap .i64 (1 + y2.1))))), (23, (.ptr 8 0)), (22, (vGValue y7.1)), (21, (.d (.i .i64 (IntKind.wrap .i64 (1 + y2.1))))), (20, (.ptr 8 0)), (13, (.d (.b y3.1))), (12, (.ptr 8 0)), (6, (.d (.i .i64 (IntKind.wrap .i64 (1 + y2.1))))), (11, (.d (.i .i64 (IntKind.wrap .i64 (1 + y2.1))))), (10, (.d (.i .i64 y2.1))), (9, (.ptr 8 0)), (5, (.ptr 8 0)), (8, (.ptr 8 0)), (7, (.d (.sl 1 (p0.map cU8)))), (4, (.ptr 4 0)), (3, (.ptr 3 0)), (2, (.ptr 2 0)), (0, (.d (.sl 1 (p0.map cU8))))], [(8, bGL1Cur y9.2), (4, [(.d (.i .i64 y9.1.kind)), (.d (.i .i64 y9.1.num)), (.d (.s (bs y9.1.text)))]), (3, [(.d (.i .i64 y8.1.kind)), (.d (.i .i64 y8.1.num)), (.d (.s (bs y8.1.text)))]), (2, [(.d (.i .i64 y7.1.kind)), (.d (.i .i64 y7.1.num)), (.d (.s (bs y7.1.text)))])]⟩) (by kernel_rfl) ?_
    refine nil_in ?_
    refine next_in ?_
    refine ret_in ?_
    have h := Option.some.inj h; subst h
    exact retn_step (vs := [(vGValue y7.1), (vGValue y8.1), (vGValue y9.1)]) (by kernel_rfl) (by kernel_rfl)
theorem OK_wBig (p0 : (List Int)) : FOk Try.prog 14 [(.d (.sl 1 (p0.map cU8)))] (fun y => (.d (.b y))) (wBig p0) := by
  intro r h
  rw [wBig] at h
  refine acalls_of_fn trwBig (Nat.le_of_ble_eq_true rfl) (by simp) ?_
  show avc Try.prog acwBig (qwBig _) ⟨[(0, (.d (.sl 1 (p0.map cU8))))], []⟩
  delta acwBig
  refine seq_in ?_
  refine ops_in ?_
  refine sts_ok 1 (s' := ⟨[(2, (.d (.b false))), (0, (.d (.sl 1 (p0.map cU8))))], []⟩) (by kernel_rfl) ?_
  refine nil_in ?_
  refine next_in ?_
  refine seq_in ?_
  refine ops_in ?_
  refine sts_ok 1 (s' := ⟨[(3, (.d (.sl 1 (p0.map cU8)))), (2, (.d (.b false))), (0, (.d (.sl 1 (p0.map cU8))))], []⟩) (by kernel_rfl) ?_
  refine p_step (v' := (.d (.i .i64 (p0.length : Int)))) rfl rfl (vop_len (sz := 1) (l := p0) (f := cU8) (by kernel_rfl) (by kernel_rfl)) ?_
  refine sts_ok 2 (s' := ⟨[(2, (.d (.b (decide (1048576 < (p0.length : Int)))))), (5, (.d (.b (decide (1048576 < (p0.length : Int)))))), (4, (.d (.i .i64 (p0.length : Int)))), (3, (.d (.sl 1 (p0.map cU8)))), (2, (.d (.b false))), (0, (.d (.sl 1 (p0.map cU8))))], []⟩) (by kernel_rfl) ?_
  refine nil_in ?_
  refine next_in ?_
  refine ret_in ?_
  have h := Option.some.inj h; subst h
  exact ret1_step (v := (.d (.b (decide (1048576 < (p0.length : Int)))))) (by kernel_rfl) (by kernel_rfl) (by kernel_rfl)
end Go.Proofs.Ytlohdmekmmjjlaa
