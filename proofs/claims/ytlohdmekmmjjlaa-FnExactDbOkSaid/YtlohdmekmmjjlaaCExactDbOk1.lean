/- That the code computes these functions (printed by a program). -/
import Derived.Test.YtlohdmekmmjjlaaCExactDbOk0
namespace Go.Proofs.Ytlohdmekmmjjlaa
open Go Go.RowKit Go.Ab
theorem OKs_sCatalogOk_L1 (p0 : GCatalog) : (∀ (x3 : Int) (y1 : GTable) (x5 : Int) (r : Bool), sCatalogOk_L1 x3 p0 y1 x5 = some r → avc Try.prog acsCatalogOk_L1 (qsCatalogOk_5 r) (stsCatalogOk_L1 x3 p0 y1 x5)) ∧ (∀ (x3 : Int) (r : Bool), sCatalogOk_L0 p0 x3 = some r → avc Try.prog acsCatalogOk_L0 (qsCatalogOk_1 r) (stsCatalogOk_L0 p0 x3)) := by
  refine sCatalogOk_L1.mutual_partial_correctness p0 (fun x3 y1 x5 r => avc Try.prog acsCatalogOk_L1 (qsCatalogOk_5 r) (stsCatalogOk_L1 x3 p0 y1 x5)) (fun x3 r => avc Try.prog acsCatalogOk_L0 (qsCatalogOk_1 r) (stsCatalogOk_L0 p0 x3)) ?_ ?_
  · intro F_sCatalogOk_L1 F_sCatalogOk_L0 OK_sCatalogOk_L1 OK_sCatalogOk_L0 x3 y1 x5 r h
    delta acsCatalogOk_L1
    refine loop_unroll ?_
    refine seq_in ?_
    refine seq_in ?_
    refine ops_in ?_
    refine sts_ok 3 (s' := ⟨(43, (.d (.sl 2 (y1.cols.map cGCol)))) :: (42, (.ptr 4 1)) :: (41, (.d (.i .i64 x5))) :: (stsCatalogOk_L1 x3 p0 y1 x5).env, (stsCatalogOk_L1 x3 p0 y1 x5).bx⟩) (by kernel_rfl) ?_
    refine p_step (v' := (.d (.i .i64 (y1.cols.length : Int)))) rfl rfl (vop_len (sz := 2) (l := y1.cols) (f := cGCol) (by kernel_rfl) (by kernel_rfl)) ?_
    refine sts_ok 1 (s' := ⟨(45, (.d (.b (decide (x5 < (y1.cols.length : Int)))))) :: (44, (.d (.i .i64 (y1.cols.length : Int)))) :: (43, (.d (.sl 2 (y1.cols.map cGCol)))) :: (42, (.ptr 4 1)) :: (41, (.d (.i .i64 x5))) :: (stsCatalogOk_L1 x3 p0 y1 x5).env, (stsCatalogOk_L1 x3 p0 y1 x5).bx⟩) (by kernel_rfl) ?_
    refine nil_in ?_
    refine next_in ?_
    refine cond_step h (by kernel_rfl) ?_ ?_
    · clear h; intro h
      refine skip_in ?_
      refine next_in ?_
      refine seq_in ?_
      refine block_in ?_
      refine seq_in ?_
      refine dops_in ?_
      refine dsts_ok 3 (s' := ⟨(50, (.d (.i .i64 x5))) :: (49, (.d (.sl 2 (y1.cols.map cGCol)))) :: (48, (.ptr 4 1)) :: (45, (.d (.b (decide (x5 < (y1.cols.length : Int)))))) :: (44, (.d (.i .i64 (y1.cols.length : Int)))) :: (43, (.d (.sl 2 (y1.cols.map cGCol)))) :: (42, (.ptr 4 1)) :: (41, (.d (.i .i64 x5))) :: (stsCatalogOk_L1 x3 p0 y1 x5).env, (stsCatalogOk_L1 x3 p0 y1 x5).bx⟩) (by kernel_rfl) ?_
      refine dv_step (m := idx y1.cols x5) (v' := fun y => (.rp [(.s (bs y.name)), (.i .i64 y.type)])) h rfl rfl (fun y hy => vop_ia (l := y1.cols) (f := cGCol) (g := cGCol) (k := .i64) hy (fun _ => rfl) (by kernel_rfl) (by kernel_rfl) (by kernel_rfl)) ?_
      clear h; intro y5 h
      refine dsts_ok 2 (s' := ⟨(53, (.d (.s (bs y5.name)))) :: (52, (.rp [(.s (bs y5.name)), (.i .i64 y5.type)])) :: (51, (.rp [(.s (bs y5.name)), (.i .i64 y5.type)])) :: (50, (.d (.i .i64 x5))) :: (49, (.d (.sl 2 (y1.cols.map cGCol)))) :: (48, (.ptr 4 1)) :: (45, (.d (.b (decide (x5 < (y1.cols.length : Int)))))) :: (44, (.d (.i .i64 (y1.cols.length : Int)))) :: (43, (.d (.sl 2 (y1.cols.map cGCol)))) :: (42, (.ptr 4 1)) :: (41, (.d (.i .i64 x5))) :: (stsCatalogOk_L1 x3 p0 y1 x5).env, (stsCatalogOk_L1 x3 p0 y1 x5).bx⟩) (by kernel_rfl) ?_
      refine dcall_step (m := sNameOk y5.name) (args := [(.d (.s (bs y5.name)))]) (v' := (fun y => (.d (.b y)))) h (OK_sNameOk y5.name) (by kernel_rfl) (by kernel_rfl) (fun _ => rfl) ?_
      clear h; intro y6 h
      refine dsts_ok 2 (s' := ⟨(56, (.d (.b (!y6)))) :: (55, (.d (.b (!y6)))) :: (54, (.d (.b y6))) :: (53, (.d (.s (bs y5.name)))) :: (52, (.rp [(.s (bs y5.name)), (.i .i64 y5.type)])) :: (51, (.rp [(.s (bs y5.name)), (.i .i64 y5.type)])) :: (50, (.d (.i .i64 x5))) :: (49, (.d (.sl 2 (y1.cols.map cGCol)))) :: (48, (.ptr 4 1)) :: (45, (.d (.b (decide (x5 < (y1.cols.length : Int)))))) :: (44, (.d (.i .i64 (y1.cols.length : Int)))) :: (43, (.d (.sl 2 (y1.cols.map cGCol)))) :: (42, (.ptr 4 1)) :: (41, (.d (.i .i64 x5))) :: (stsCatalogOk_L1 x3 p0 y1 x5).env, (stsCatalogOk_L1 x3 p0 y1 x5).bx⟩) (by kernel_rfl) ?_
      refine dgp_step (p := true) (b := (!y6)) (v' := (vGTable y1)) (by kernel_rfl) rfl rfl (fun hc => vop_val1 (by kernel_rfl) (by kernel_rfl)) ?_
      refine dgp_step (p := true) (b := (!y6)) (v' := (.ptr 4 1)) (by kernel_rfl) rfl rfl (fun hc => vop_val1 (by kernel_rfl) (by kernel_rfl)) ?_
      refine dgp_step (p := true) (b := (!y6)) (v' := (.d (.sl 2 (y1.cols.map cGCol)))) (by kernel_rfl) rfl rfl (fun hc => vop_val1 (Eq.trans (b := ([(true && ((!y6) == false))] : List Bool).all id) (by kernel_rfl) (all_c hc rfl)) (by kernel_rfl)) ?_
      refine dgp_step (p := true) (b := (!y6)) (v' := (.d (.i .i64 x5))) (by kernel_rfl) rfl rfl (fun hc => vop_val1 (by kernel_rfl) (by kernel_rfl)) ?_
      refine dgv_step (p := true) (b := (!y6)) (m := idx y1.cols x5) (dflt := default) (v' := fun y => (.rp [(.s (bs y.name)), (.i .i64 y.type)])) h (by kernel_rfl) rfl rfl (fun y hy hc => vop_ia (l := y1.cols) (f := cGCol) (g := cGCol) (k := .i64) hy (fun _ => rfl) (Eq.trans (b := ([(true && ((!y6) == false)), (true && ((!y6) == false))] : List Bool).all id) (by kernel_rfl) (all_c hc (all_c hc rfl))) (by kernel_rfl) (by kernel_rfl)) ?_
      clear h; intro y7 h
      refine dgp_step (p := true) (b := (!y6)) (v' := (.rp [(.s (bs y7.name)), (.i .i64 y7.type)])) (by kernel_rfl) rfl rfl (fun hc => vop_val1 (Eq.trans (b := ([(true && ((!y6) == false))] : List Bool).all id) (by kernel_rfl) (all_c hc rfl)) (by kernel_rfl)) ?_
      refine dgp_step (p := true) (b := (!y6)) (v' := (.d (.s (bs y7.name)))) (by kernel_rfl) rfl rfl (fun hc => vop_val1 (Eq.trans (b := ([(true && ((!y6) == false))] : List Bool).all id) (by kernel_rfl) (all_c hc rfl)) (by kernel_rfl)) ?_
      refine dgcall_step (p := true) (b := (!y6)) (m := sColAt y1 y7.name) (dflt := default) (args := [(vGTable y1), (.d (.s (bs y7.name)))]) (v' := (fun y => (.d (.i .i64 y)))) h (by kernel_rfl) (OK_sColAt y1 y7.name) (fun hc => by kernel_rfl) (by kernel_rfl) (fun _ => rfl) (fun hc => (Eq.trans (b := ([(true && ((!y6) == false)), (true && ((!y6) == false))] : List Bool).all id) (by kernel_rfl) (all_c hc (all_c hc rfl)))) ?_
      clear h; intro y8 h
      refine dgp_step (p := true) (b := (!y6)) (v' := (.d (.i .i64 x5))) (by kernel_rfl) rfl rfl (fun hc => vop_val1 (by kernel_rfl) (by kernel_rfl)) ?_
      refine dgp_step (p := true) (b := (!y6)) (v' := (.d (.b (!decide (y8 = x5))))) (by kernel_rfl) rfl rfl (fun hc => vop_val1 (Eq.trans (b := ([(true && ((!y6) == false)), (true && ((!y6) == false))] : List Bool).all id) (by kernel_rfl) (all_c hc (all_c hc rfl))) (by kernel_rfl)) ?_
      refine dp_step (v' := (.d (.b (if (!y6) = true then true else (!decide (y8 = x5)))))) rfl rfl (vop_pick (b := (!y6)) (p := true) (u := true) (q := (true && ((!y6) == false))) (v := (!decide (y8 = x5))) (by kernel_rfl) (by kernel_rfl) (by kernel_rfl) (by kernel_rfl) (fun _ => rfl) (fun hb => gc_f rfl hb)) ?_
      refine dsts_ok 1 (s' := ⟨(68, (.d (.b (if (!y6) = true then true else (!decide (y8 = x5)))))) :: (67, (.d (.b (if (!y6) = true then true else (!decide (y8 = x5)))))) :: (66, (.ite (true && ((!y6) == false)) (.d (.b (!decide (y8 = x5)))))) :: (65, (.ite (true && ((!y6) == false)) (.d (.i .i64 x5)))) :: (64, (.ite (true && ((!y6) == false)) (.d (.i .i64 y8)))) :: (63, (.ite (true && ((!y6) == false)) (.d (.s (bs y7.name))))) :: (62, (.ite (true && ((!y6) == false)) (.rp [(.s (bs y7.name)), (.i .i64 y7.type)]))) :: (61, (.ite (true && ((!y6) == false)) (.rp [(.s (bs y7.name)), (.i .i64 y7.type)]))) :: (60, (.ite (true && ((!y6) == false)) (.d (.i .i64 x5)))) :: (59, (.ite (true && ((!y6) == false)) (.d (.sl 2 (y1.cols.map cGCol))))) :: (58, (.ite (true && ((!y6) == false)) (.ptr 4 1))) :: (57, (.ite (true && ((!y6) == false)) (vGTable y1))) :: (56, (.d (.b (!y6)))) :: (55, (.d (.b (!y6)))) :: (54, (.d (.b y6))) :: (53, (.d (.s (bs y5.name)))) :: (52, (.rp [(.s (bs y5.name)), (.i .i64 y5.type)])) :: (51, (.rp [(.s (bs y5.name)), (.i .i64 y5.type)])) :: (50, (.d (.i .i64 x5))) :: (49, (.d (.sl 2 (y1.cols.map cGCol)))) :: (48, (.ptr 4 1)) :: (45, (.d (.b (decide (x5 < (y1.cols.length : Int)))))) :: (44, (.d (.i .i64 (y1.cols.length : Int)))) :: (43, (.d (.sl 2 (y1.cols.map cGCol)))) :: (42, (.ptr 4 1)) :: (41, (.d (.i .i64 x5))) :: (stsCatalogOk_L1 x3 p0 y1 x5).env, (stsCatalogOk_L1 x3 p0 y1 x5).bx⟩) (by kernel_rfl) ?_
      refine dgp_step (p := true) (b := (if (!y6) = true then true else (!decide (y8 = x5)))) (v' := (.ptr 4 1)) (by kernel_rfl) rfl rfl (fun hc => vop_val1 (by kernel_rfl) (by kernel_rfl)) ?_
      refine dgp_step (p := true) (b := (if (!y6) = true then true else (!decide (y8 = x5)))) (v' := (.d (.sl 2 (y1.cols.map cGCol)))) (by kernel_rfl) rfl rfl (fun hc => vop_val1 (Eq.trans (b := ([(true && ((if (!y6) = true then true else (!decide (y8 = x5))) == false))] : List Bool).all id) (by kernel_rfl) (all_c hc rfl)) (by kernel_rfl)) ?_
      refine dgp_step (p := true) (b := (if (!y6) = true then true else (!decide (y8 = x5)))) (v' := (.d (.i .i64 x5))) (by kernel_rfl) rfl rfl (fun hc => vop_val1 (by kernel_rfl) (by kernel_rfl)) ?_
      refine dgv_step (p := true) (b := (if (!y6) = true then true else (!decide (y8 = x5)))) (m := idx y1.cols x5) (dflt := default) (v' := fun y => (.rp [(.s (bs y.name)), (.i .i64 y.type)])) h (by kernel_rfl) rfl rfl (fun y hy hc => vop_ia (l := y1.cols) (f := cGCol) (g := cGCol) (k := .i64) hy (fun _ => rfl) (Eq.trans (b := ([(true && ((if (!y6) = true then true else (!decide (y8 = x5))) == false)), (true && ((if (!y6) = true then true else (!decide (y8 = x5))) == false))] : List Bool).all id) (by kernel_rfl) (all_c hc (all_c hc rfl))) (by kernel_rfl) (by kernel_rfl)) ?_
      clear h; intro y9 h
      refine dgp_step (p := true) (b := (if (!y6) = true then true else (!decide (y8 = x5)))) (v' := (.rp [(.i .i64 y9.type)])) (by kernel_rfl) rfl rfl (fun hc => vop_val1 (Eq.trans (b := ([(true && ((if (!y6) = true then true else (!decide (y8 = x5))) == false))] : List Bool).all id) (by kernel_rfl) (all_c hc rfl)) (by kernel_rfl)) ?_
      refine dgp_step (p := true) (b := (if (!y6) = true then true else (!decide (y8 = x5)))) (v' := (.d (.i .i64 y9.type))) (by kernel_rfl) rfl rfl (fun hc => vop_val1 (Eq.trans (b := ([(true && ((if (!y6) = true then true else (!decide (y8 = x5))) == false))] : List Bool).all id) (by kernel_rfl) (all_c hc rfl)) (by kernel_rfl)) ?_
      refine dgcall_step (p := true) (b := (if (!y6) = true then true else (!decide (y8 = x5)))) (m := sL1In y9.type 1 3) (dflt := default) (args := [(.d (.i .i64 y9.type)), (.d (.i .i64 1)), (.d (.i .i64 3))]) (v' := (fun y => (.d (.b y)))) h (by kernel_rfl) (OK_sL1In y9.type 1 3) (fun hc => by kernel_rfl) (by kernel_rfl) (fun _ => rfl) (fun hc => (Eq.trans (b := ([(true && ((if (!y6) = true then true else (!decide (y8 = x5))) == false))] : List Bool).all id) (by kernel_rfl) (all_c hc rfl))) ?_
      clear h; intro y10 h
      refine dgp_step (p := true) (b := (if (!y6) = true then true else (!decide (y8 = x5)))) (v' := (.d (.b (!y10)))) (by kernel_rfl) rfl rfl (fun hc => vop_val1 (Eq.trans (b := ([(true && ((if (!y6) = true then true else (!decide (y8 = x5))) == false))] : List Bool).all id) (by kernel_rfl) (all_c hc rfl)) (by kernel_rfl)) ?_
      refine dp_step (v' := (.d (.b (if (if (!y6) = true then true else (!decide (y8 = x5))) = true then true else (!y10))))) rfl rfl (vop_pick (b := (if (!y6) = true then true else (!decide (y8 = x5)))) (p := true) (u := true) (q := (true && ((if (!y6) = true then true else (!decide (y8 = x5))) == false))) (v := (!y10)) (by kernel_rfl) (by kernel_rfl) (by kernel_rfl) (by kernel_rfl) (fun _ => rfl) (fun hb => gc_f rfl hb)) ?_
      refine dnil_in (by kernel_rfl) (by kernel_rfl) ?_
      refine next_in ?_
      refine cond_step h (by kernel_rfl) ?_ ?_
      · clear h; intro h
        refine seq_in ?_
        refine ops_in ?_
        refine sts_ok 1 (s' := ⟨(2, (.d (.b false))) :: (77, (.d (.b (if (if (!y6) = true then true else (!decide (y8 = x5))) = true then true else (!y10))))) :: (76, (.ite (true && ((if (!y6) = true then true else (!decide (y8 = x5))) == false)) (.d (.b (!y10))))) :: (75, (.ite (true && ((if (!y6) = true then true else (!decide (y8 = x5))) == false)) (.d (.b y10)))) :: (74, (.ite (true && ((if (!y6) = true then true else (!decide (y8 = x5))) == false)) (.d (.i .i64 y9.type)))) :: (73, (.ite (true && ((if (!y6) = true then true else (!decide (y8 = x5))) == false)) (.rp [(.i .i64 y9.type)]))) :: (72, (.ite (true && ((if (!y6) = true then true else (!decide (y8 = x5))) == false)) (.rp [(.s (bs y9.name)), (.i .i64 y9.type)]))) :: (71, (.ite (true && ((if (!y6) = true then true else (!decide (y8 = x5))) == false)) (.d (.i .i64 x5)))) :: (70, (.ite (true && ((if (!y6) = true then true else (!decide (y8 = x5))) == false)) (.d (.sl 2 (y1.cols.map cGCol))))) :: (69, (.ite (true && ((if (!y6) = true then true else (!decide (y8 = x5))) == false)) (.ptr 4 1))) :: (68, (.d (.b (if (!y6) = true then true else (!decide (y8 = x5)))))) :: (67, (.d (.b (if (!y6) = true then true else (!decide (y8 = x5)))))) :: (66, (.ite (true && ((!y6) == false)) (.d (.b (!decide (y8 = x5)))))) :: (65, (.ite (true && ((!y6) == false)) (.d (.i .i64 x5)))) :: (64, (.ite (true && ((!y6) == false)) (.d (.i .i64 y8)))) :: (63, (.ite (true && ((!y6) == false)) (.d (.s (bs y7.name))))) :: (62, (.ite (true && ((!y6) == false)) (.rp [(.s (bs y7.name)), (.i .i64 y7.type)]))) :: (61, (.ite (true && ((!y6) == false)) (.rp [(.s (bs y7.name)), (.i .i64 y7.type)]))) :: (60, (.ite (true && ((!y6) == false)) (.d (.i .i64 x5)))) :: (59, (.ite (true && ((!y6) == false)) (.d (.sl 2 (y1.cols.map cGCol))))) :: (58, (.ite (true && ((!y6) == false)) (.ptr 4 1))) :: (57, (.ite (true && ((!y6) == false)) (vGTable y1))) :: (56, (.d (.b (!y6)))) :: (55, (.d (.b (!y6)))) :: (54, (.d (.b y6))) :: (53, (.d (.s (bs y5.name)))) :: (52, (.rp [(.s (bs y5.name)), (.i .i64 y5.type)])) :: (51, (.rp [(.s (bs y5.name)), (.i .i64 y5.type)])) :: (50, (.d (.i .i64 x5))) :: (49, (.d (.sl 2 (y1.cols.map cGCol)))) :: (48, (.ptr 4 1)) :: (45, (.d (.b (decide (x5 < (y1.cols.length : Int)))))) :: (44, (.d (.i .i64 (y1.cols.length : Int)))) :: (43, (.d (.sl 2 (y1.cols.map cGCol)))) :: (42, (.ptr 4 1)) :: (41, (.d (.i .i64 x5))) :: (stsCatalogOk_L1 x3 p0 y1 x5).env, (stsCatalogOk_L1 x3 p0 y1 x5).bx⟩) (by kernel_rfl) ?_
        refine nil_in ?_
        refine next_in ?_
        refine ret_in ?_
        refine blockK_ret ?_
        refine thenK_ret ?_
        refine thenK_ret ?_
        refine blockK_ret ?_
        refine blockK_ret ?_
        refine thenK_ret ?_
        refine thenK_ret ?_
        refine blockK_ret ?_
        refine thenK_ret ?_
        have h := Option.some.inj h; subst h
        exact ret1_step (v := (.d (.b false))) (by kernel_rfl) (by kernel_rfl) (by kernel_rfl)
      · clear h; intro h
        refine skip_in ?_
        refine blockK_norm ?_
        refine next_in ?_
        refine ops_in ?_
        refine sts_ok 3 (s' := ⟨(5, (.d (.i .i64 (IntKind.wrap .i64 (x5 + 1))))) :: (47, (.d (.i .i64 (IntKind.wrap .i64 (x5 + 1))))) :: (46, (.d (.i .i64 x5))) :: (77, (.d (.b (if (if (!y6) = true then true else (!decide (y8 = x5))) = true then true else (!y10))))) :: (76, (.ite (true && ((if (!y6) = true then true else (!decide (y8 = x5))) == false)) (.d (.b (!y10))))) :: (75, (.ite (true && ((if (!y6) = true then true else (!decide (y8 = x5))) == false)) (.d (.b y10)))) :: (74, (.ite (true && ((if (!y6) = true then true else (!decide (y8 = x5))) == false)) (.d (.i .i64 y9.type)))) :: (73, (.ite (true && ((if (!y6) = true then true else (!decide (y8 = x5))) == false)) (.rp [(.i .i64 y9.type)]))) :: (72, (.ite (true && ((if (!y6) = true then true else (!decide (y8 = x5))) == false)) (.rp [(.s (bs y9.name)), (.i .i64 y9.type)]))) :: (71, (.ite (true && ((if (!y6) = true then true else (!decide (y8 = x5))) == false)) (.d (.i .i64 x5)))) :: (70, (.ite (true && ((if (!y6) = true then true else (!decide (y8 = x5))) == false)) (.d (.sl 2 (y1.cols.map cGCol))))) :: (69, (.ite (true && ((if (!y6) = true then true else (!decide (y8 = x5))) == false)) (.ptr 4 1))) :: (68, (.d (.b (if (!y6) = true then true else (!decide (y8 = x5)))))) :: (67, (.d (.b (if (!y6) = true then true else (!decide (y8 = x5)))))) :: (66, (.ite (true && ((!y6) == false)) (.d (.b (!decide (y8 = x5)))))) :: (65, (.ite (true && ((!y6) == false)) (.d (.i .i64 x5)))) :: (64, (.ite (true && ((!y6) == false)) (.d (.i .i64 y8)))) :: (63, (.ite (true && ((!y6) == false)) (.d (.s (bs y7.name))))) :: (62, (.ite (true && ((!y6) == false)) (.rp [(.s (bs y7.name)), (.i .i64 y7.type)]))) :: (61, (.ite (true && ((!y6) == false)) (.rp [(.s (bs y7.name)), (.i .i64 y7.type)]))) :: (60, (.ite (true && ((!y6) == false)) (.d (.i .i64 x5)))) :: (59, (.ite (true && ((!y6) == false)) (.d (.sl 2 (y1.cols.map cGCol))))) :: (58, (.ite (true && ((!y6) == false)) (.ptr 4 1))) :: (57, (.ite (true && ((!y6) == false)) (vGTable y1))) :: (56, (.d (.b (!y6)))) :: (55, (.d (.b (!y6)))) :: (54, (.d (.b y6))) :: (53, (.d (.s (bs y5.name)))) :: (52, (.rp [(.s (bs y5.name)), (.i .i64 y5.type)])) :: (51, (.rp [(.s (bs y5.name)), (.i .i64 y5.type)])) :: (50, (.d (.i .i64 x5))) :: (49, (.d (.sl 2 (y1.cols.map cGCol)))) :: (48, (.ptr 4 1)) :: (45, (.d (.b (decide (x5 < (y1.cols.length : Int)))))) :: (44, (.d (.i .i64 (y1.cols.length : Int)))) :: (43, (.d (.sl 2 (y1.cols.map cGCol)))) :: (42, (.ptr 4 1)) :: (41, (.d (.i .i64 x5))) :: (stsCatalogOk_L1 x3 p0 y1 x5).env, (stsCatalogOk_L1 x3 p0 y1 x5).bx⟩) (by kernel_rfl) ?_
        refine nil_in ?_
        exact loop_back (s' := stsCatalogOk_L1 x3 p0 y1 (IntKind.wrap .i64 (x5 + 1))) (wk_ren [] (by kernel_rfl) (er_cons (vr_same (by kernel_rfl) (by kernel_rfl)) (er_cons (vr_same (by kernel_rfl) (by kernel_rfl)) (er_cons (vr_same (by kernel_rfl) (by kernel_rfl)) (er_cons (vr_same (by kernel_rfl) (by kernel_rfl)) (er_nil))))) (br_same (by kernel_rfl) (by kernel_rfl) (br_same (by kernel_rfl) (by kernel_rfl) (br_nil)))) (OK_sCatalogOk_L1 x3 y1 (IntKind.wrap .i64 (x5 + 1)) _ h)
    · clear h; intro h
      refine exit_in ?_
      refine thenK_exit ?_
      refine thenK_exit ?_
      refine blockK_here ?_
      refine blockK_norm ?_
      refine next_in ?_
      refine ops_in ?_
      refine sts_ok 3 (s' := ⟨(3, (.d (.i .i64 (IntKind.wrap .i64 (x3 + 1))))) :: (16, (.d (.i .i64 (IntKind.wrap .i64 (x3 + 1))))) :: (15, (.d (.i .i64 x3))) :: (45, (.d (.b (decide (x5 < (y1.cols.length : Int)))))) :: (44, (.d (.i .i64 (y1.cols.length : Int)))) :: (43, (.d (.sl 2 (y1.cols.map cGCol)))) :: (42, (.ptr 4 1)) :: (41, (.d (.i .i64 x5))) :: (stsCatalogOk_L1 x3 p0 y1 x5).env, (stsCatalogOk_L1 x3 p0 y1 x5).bx⟩) (by kernel_rfl) ?_
      refine nil_in ?_
      exact loop_back (s' := stsCatalogOk_L0 p0 (IntKind.wrap .i64 (x3 + 1))) (wk_ren [] (by kernel_rfl) (er_cons (vr_same (by kernel_rfl) (by kernel_rfl)) (er_cons (vr_same (by kernel_rfl) (by kernel_rfl)) (er_nil))) (br_same (by kernel_rfl) (by kernel_rfl) (br_nil))) (OK_sCatalogOk_L0 (IntKind.wrap .i64 (x3 + 1)) _ h)
  · intro F_sCatalogOk_L1 OK_sCatalogOk_L1 x3 r h
    delta acsCatalogOk_L0
    refine loop_unroll ?_
    refine seq_in ?_
    refine seq_in ?_
    refine ops_in ?_
    refine sts_ok 3 (s' := ⟨(12, (.d (.sl 2 (p0.tables.map cGTable)))) :: (11, (.ptr 1 0)) :: (10, (.d (.i .i64 x3))) :: (stsCatalogOk_L0 p0 x3).env, (stsCatalogOk_L0 p0 x3).bx⟩) (by kernel_rfl) ?_
    refine p_step (v' := (.d (.i .i64 (p0.tables.length : Int)))) rfl rfl (vop_len (sz := 2) (l := p0.tables) (f := cGTable) (by kernel_rfl) (by kernel_rfl)) ?_
    refine sts_ok 1 (s' := ⟨(14, (.d (.b (decide (x3 < (p0.tables.length : Int)))))) :: (13, (.d (.i .i64 (p0.tables.length : Int)))) :: (12, (.d (.sl 2 (p0.tables.map cGTable)))) :: (11, (.ptr 1 0)) :: (10, (.d (.i .i64 x3))) :: (stsCatalogOk_L0 p0 x3).env, (stsCatalogOk_L0 p0 x3).bx⟩) (by kernel_rfl) ?_
    refine nil_in ?_
    refine next_in ?_
    refine cond_step h (by kernel_rfl) ?_ ?_
    · clear h; intro h
      refine skip_in ?_
      refine next_in ?_
      refine seq_in ?_
      refine block_in ?_
      refine seq_in ?_
      refine ops_in ?_
      refine sts_ok 3 (s' := ⟨(19, (.d (.i .i64 x3))) :: (18, (.d (.sl 2 (p0.tables.map cGTable)))) :: (17, (.ptr 1 0)) :: (14, (.d (.b (decide (x3 < (p0.tables.length : Int)))))) :: (13, (.d (.i .i64 (p0.tables.length : Int)))) :: (12, (.d (.sl 2 (p0.tables.map cGTable)))) :: (11, (.ptr 1 0)) :: (10, (.d (.i .i64 x3))) :: (stsCatalogOk_L0 p0 x3).env, (stsCatalogOk_L0 p0 x3).bx⟩) (by kernel_rfl) ?_
      refine v_step (m := idx p0.tables x3) (v' := fun y => (.rp [(.s (bs y.name)), (.sl 2 (y.cols.map cGCol))])) h rfl rfl (fun y hy => vop_ia (l := p0.tables) (f := cGTable) (g := cGTable) (k := .i64) hy (fun _ => rfl) (by kernel_rfl) (by kernel_rfl) (by kernel_rfl)) ?_
      clear h; intro y1 h
      refine sts_ok 3 (s' := ⟨(4, (.ptr 4 0)) :: (21, (vGTable y1)) :: (20, (.rp [(.s (bs y1.name)), (.sl 2 (y1.cols.map cGCol))])) :: (19, (.d (.i .i64 x3))) :: (18, (.d (.sl 2 (p0.tables.map cGTable)))) :: (17, (.ptr 1 0)) :: (14, (.d (.b (decide (x3 < (p0.tables.length : Int)))))) :: (13, (.d (.i .i64 (p0.tables.length : Int)))) :: (12, (.d (.sl 2 (p0.tables.map cGTable)))) :: (11, (.ptr 1 0)) :: (10, (.d (.i .i64 x3))) :: (stsCatalogOk_L0 p0 x3).env, [(4, [(.d (.s (bs y1.name))), (.d (.sl 2 (y1.cols.map cGCol)))]), (1, [(.d (.sl 2 (p0.tables.map cGTable)))])]⟩) (by kernel_rfl) ?_
      refine nil_in ?_
      refine next_in ?_
      refine seq_in ?_
      refine seq_in ?_
      refine ops_in ?_
      refine sts_ok 2 (s' := ⟨(23, (.d (.s (bs y1.name)))) :: (22, (.ptr 4 0)) :: (4, (.ptr 4 0)) :: (21, (vGTable y1)) :: (20, (.rp [(.s (bs y1.name)), (.sl 2 (y1.cols.map cGCol))])) :: (19, (.d (.i .i64 x3))) :: (18, (.d (.sl 2 (p0.tables.map cGTable)))) :: (17, (.ptr 1 0)) :: (14, (.d (.b (decide (x3 < (p0.tables.length : Int)))))) :: (13, (.d (.i .i64 (p0.tables.length : Int)))) :: (12, (.d (.sl 2 (p0.tables.map cGTable)))) :: (11, (.ptr 1 0)) :: (10, (.d (.i .i64 x3))) :: (stsCatalogOk_L0 p0 x3).env, [(4, [(.d (.s (bs y1.name))), (.d (.sl 2 (y1.cols.map cGCol)))]), (1, [(.d (.sl 2 (p0.tables.map cGTable)))])]⟩) (by kernel_rfl) ?_
      refine call_step (m := sNameOk y1.name) (args := [(.d (.s (bs y1.name)))]) (v' := (fun y => (.d (.b y)))) h (OK_sNameOk y1.name) (by kernel_rfl) (by kernel_rfl) (fun _ => rfl) ?_
      clear h; intro y2 h
      refine sts_ok 2 (s' := ⟨(26, (.d (.b (!y2)))) :: (25, (.d (.b (!y2)))) :: (24, (.d (.b y2))) :: (23, (.d (.s (bs y1.name)))) :: (22, (.ptr 4 0)) :: (4, (.ptr 4 0)) :: (21, (vGTable y1)) :: (20, (.rp [(.s (bs y1.name)), (.sl 2 (y1.cols.map cGCol))])) :: (19, (.d (.i .i64 x3))) :: (18, (.d (.sl 2 (p0.tables.map cGTable)))) :: (17, (.ptr 1 0)) :: (14, (.d (.b (decide (x3 < (p0.tables.length : Int)))))) :: (13, (.d (.i .i64 (p0.tables.length : Int)))) :: (12, (.d (.sl 2 (p0.tables.map cGTable)))) :: (11, (.ptr 1 0)) :: (10, (.d (.i .i64 x3))) :: (stsCatalogOk_L0 p0 x3).env, [(4, [(.d (.s (bs y1.name))), (.d (.sl 2 (y1.cols.map cGCol)))]), (1, [(.d (.sl 2 (p0.tables.map cGTable)))])]⟩) (by kernel_rfl) ?_
      refine gp_step (p := true) (b := (!y2)) (v' := (vGCatalog p0)) (by kernel_rfl) rfl rfl (fun hc => vop_val1 (by kernel_rfl) (by kernel_rfl)) ?_
      refine gp_step (p := true) (b := (!y2)) (v' := (.ptr 4 0)) (by kernel_rfl) rfl rfl (fun hc => vop_val1 (by kernel_rfl) (by kernel_rfl)) ?_
      refine gp_step (p := true) (b := (!y2)) (v' := (.d (.s (bs y1.name)))) (by kernel_rfl) rfl rfl (fun hc => vop_val1 (Eq.trans (b := ([(true && ((!y2) == false))] : List Bool).all id) (by kernel_rfl) (all_c hc rfl)) (by kernel_rfl)) ?_
      refine gcall_step (p := true) (b := (!y2)) (m := sTableAt p0 y1.name) (dflt := default) (args := [(vGCatalog p0), (.d (.s (bs y1.name)))]) (v' := (fun y => (.d (.i .i64 y)))) h (by kernel_rfl) (OK_sTableAt p0 y1.name) (fun hc => by kernel_rfl) (by kernel_rfl) (fun _ => rfl) (fun hc => (Eq.trans (b := ([(true && ((!y2) == false)), (true && ((!y2) == false))] : List Bool).all id) (by kernel_rfl) (all_c hc (all_c hc rfl)))) ?_
      clear h; intro y3 h
      refine gp_step (p := true) (b := (!y2)) (v' := (.d (.i .i64 x3))) (by kernel_rfl) rfl rfl (fun hc => vop_val1 (by kernel_rfl) (by kernel_rfl)) ?_
      refine gp_step (p := true) (b := (!y2)) (v' := (.d (.b (!decide (y3 = x3))))) (by kernel_rfl) rfl rfl (fun hc => vop_val1 (Eq.trans (b := ([(true && ((!y2) == false)), (true && ((!y2) == false))] : List Bool).all id) (by kernel_rfl) (all_c hc (all_c hc rfl))) (by kernel_rfl)) ?_
      refine p_step (v' := (.d (.b (if (!y2) = true then true else (!decide (y3 = x3)))))) rfl rfl (vop_pick (b := (!y2)) (p := true) (u := true) (q := (true && ((!y2) == false))) (v := (!decide (y3 = x3))) (by kernel_rfl) (by kernel_rfl) (by kernel_rfl) (by kernel_rfl) (fun _ => rfl) (fun hb => gc_f rfl hb)) ?_
      refine sts_ok 1 (s' := ⟨(34, (.d (.b (if (!y2) = true then true else (!decide (y3 = x3)))))) :: (33, (.d (.b (if (!y2) = true then true else (!decide (y3 = x3)))))) :: (32, (.ite (true && ((!y2) == false)) (.d (.b (!decide (y3 = x3)))))) :: (31, (.ite (true && ((!y2) == false)) (.d (.i .i64 x3)))) :: (30, (.ite (true && ((!y2) == false)) (.d (.i .i64 y3)))) :: (29, (.ite (true && ((!y2) == false)) (.d (.s (bs y1.name))))) :: (28, (.ite (true && ((!y2) == false)) (.ptr 4 0))) :: (27, (.ite (true && ((!y2) == false)) (vGCatalog p0))) :: (26, (.d (.b (!y2)))) :: (25, (.d (.b (!y2)))) :: (24, (.d (.b y2))) :: (23, (.d (.s (bs y1.name)))) :: (22, (.ptr 4 0)) :: (4, (.ptr 4 0)) :: (21, (vGTable y1)) :: (20, (.rp [(.s (bs y1.name)), (.sl 2 (y1.cols.map cGCol))])) :: (19, (.d (.i .i64 x3))) :: (18, (.d (.sl 2 (p0.tables.map cGTable)))) :: (17, (.ptr 1 0)) :: (14, (.d (.b (decide (x3 < (p0.tables.length : Int)))))) :: (13, (.d (.i .i64 (p0.tables.length : Int)))) :: (12, (.d (.sl 2 (p0.tables.map cGTable)))) :: (11, (.ptr 1 0)) :: (10, (.d (.i .i64 x3))) :: (stsCatalogOk_L0 p0 x3).env, [(4, [(.d (.s (bs y1.name))), (.d (.sl 2 (y1.cols.map cGCol)))]), (1, [(.d (.sl 2 (p0.tables.map cGTable)))])]⟩) (by kernel_rfl) ?_
      refine gp_step (p := true) (b := (if (!y2) = true then true else (!decide (y3 = x3)))) (v' := (.ptr 4 1)) (by kernel_rfl) rfl rfl (fun hc => vop_val1 (by kernel_rfl) (by kernel_rfl)) ?_
      refine gp_step (p := true) (b := (if (!y2) = true then true else (!decide (y3 = x3)))) (v' := (.d (.sl 2 (y1.cols.map cGCol)))) (by kernel_rfl) rfl rfl (fun hc => vop_val1 (Eq.trans (b := ([(true && ((if (!y2) = true then true else (!decide (y3 = x3))) == false))] : List Bool).all id) (by kernel_rfl) (all_c hc rfl)) (by kernel_rfl)) ?_
      refine gp_step (p := true) (b := (if (!y2) = true then true else (!decide (y3 = x3)))) (v' := (.d (.i .i64 (y1.cols.length : Int)))) (by kernel_rfl) rfl rfl (fun hc => vop_len (sz := 2) (l := y1.cols) (f := cGCol) (Eq.trans (b := ([(true && ((if (!y2) = true then true else (!decide (y3 = x3))) == false))] : List Bool).all id) (by kernel_rfl) (all_c hc rfl)) (by kernel_rfl)) ?_
      refine gcall_step (p := true) (b := (if (!y2) = true then true else (!decide (y3 = x3)))) (m := sL1In (y1.cols.length : Int) 1 4) (dflt := default) (args := [(.d (.i .i64 (y1.cols.length : Int))), (.d (.i .i64 1)), (.d (.i .i64 4))]) (v' := (fun y => (.d (.b y)))) h (by kernel_rfl) (OK_sL1In (y1.cols.length : Int) 1 4) (fun hc => by kernel_rfl) (by kernel_rfl) (fun _ => rfl) (fun hc => (Eq.trans (b := ([(true && ((if (!y2) = true then true else (!decide (y3 = x3))) == false))] : List Bool).all id) (by kernel_rfl) (all_c hc rfl))) ?_
      clear h; intro y4 h
      refine gp_step (p := true) (b := (if (!y2) = true then true else (!decide (y3 = x3)))) (v' := (.d (.b (!y4)))) (by kernel_rfl) rfl rfl (fun hc => vop_val1 (Eq.trans (b := ([(true && ((if (!y2) = true then true else (!decide (y3 = x3))) == false))] : List Bool).all id) (by kernel_rfl) (all_c hc rfl)) (by kernel_rfl)) ?_
      refine p_step (v' := (.d (.b (if (if (!y2) = true then true else (!decide (y3 = x3))) = true then true else (!y4))))) rfl rfl (vop_pick (b := (if (!y2) = true then true else (!decide (y3 = x3)))) (p := true) (u := true) (q := (true && ((if (!y2) = true then true else (!decide (y3 = x3))) == false))) (v := (!y4)) (by kernel_rfl) (by kernel_rfl) (by kernel_rfl) (by kernel_rfl) (fun _ => rfl) (fun hb => gc_f rfl hb)) ?_
      refine nil_in ?_
      refine next_in ?_
      refine cond_step h (by kernel_rfl) ?_ ?_
      · clear h; intro h
        refine seq_in ?_
        refine ops_in ?_
        refine sts_ok 1 (s' := ⟨(2, (.d (.b false))) :: (40, (.d (.b (if (if (!y2) = true then true else (!decide (y3 = x3))) = true then true else (!y4))))) :: (39, (.ite (true && ((if (!y2) = true then true else (!decide (y3 = x3))) == false)) (.d (.b (!y4))))) :: (38, (.ite (true && ((if (!y2) = true then true else (!decide (y3 = x3))) == false)) (.d (.b y4)))) :: (37, (.ite (true && ((if (!y2) = true then true else (!decide (y3 = x3))) == false)) (.d (.i .i64 (y1.cols.length : Int))))) :: (36, (.ite (true && ((if (!y2) = true then true else (!decide (y3 = x3))) == false)) (.d (.sl 2 (y1.cols.map cGCol))))) :: (35, (.ite (true && ((if (!y2) = true then true else (!decide (y3 = x3))) == false)) (.ptr 4 1))) :: (34, (.d (.b (if (!y2) = true then true else (!decide (y3 = x3)))))) :: (33, (.d (.b (if (!y2) = true then true else (!decide (y3 = x3)))))) :: (32, (.ite (true && ((!y2) == false)) (.d (.b (!decide (y3 = x3)))))) :: (31, (.ite (true && ((!y2) == false)) (.d (.i .i64 x3)))) :: (30, (.ite (true && ((!y2) == false)) (.d (.i .i64 y3)))) :: (29, (.ite (true && ((!y2) == false)) (.d (.s (bs y1.name))))) :: (28, (.ite (true && ((!y2) == false)) (.ptr 4 0))) :: (27, (.ite (true && ((!y2) == false)) (vGCatalog p0))) :: (26, (.d (.b (!y2)))) :: (25, (.d (.b (!y2)))) :: (24, (.d (.b y2))) :: (23, (.d (.s (bs y1.name)))) :: (22, (.ptr 4 0)) :: (4, (.ptr 4 0)) :: (21, (vGTable y1)) :: (20, (.rp [(.s (bs y1.name)), (.sl 2 (y1.cols.map cGCol))])) :: (19, (.d (.i .i64 x3))) :: (18, (.d (.sl 2 (p0.tables.map cGTable)))) :: (17, (.ptr 1 0)) :: (14, (.d (.b (decide (x3 < (p0.tables.length : Int)))))) :: (13, (.d (.i .i64 (p0.tables.length : Int)))) :: (12, (.d (.sl 2 (p0.tables.map cGTable)))) :: (11, (.ptr 1 0)) :: (10, (.d (.i .i64 x3))) :: (stsCatalogOk_L0 p0 x3).env, [(4, [(.d (.s (bs y1.name))), (.d (.sl 2 (y1.cols.map cGCol)))]), (1, [(.d (.sl 2 (p0.tables.map cGTable)))])]⟩) (by kernel_rfl) ?_
        refine nil_in ?_
        refine next_in ?_
        refine ret_in ?_
        refine thenK_ret ?_
        refine blockK_ret ?_
        refine thenK_ret ?_
        refine thenK_ret ?_
        refine blockK_ret ?_
        refine thenK_ret ?_
        have h := Option.some.inj h; subst h
        exact ret1_step (v := (.d (.b false))) (by kernel_rfl) (by kernel_rfl) (by kernel_rfl)
      · clear h; intro h
        refine skip_in ?_
        refine next_in ?_
        refine seq_in ?_
        refine ops_in ?_
        refine sts_ok 1 (s' := ⟨(5, (.d (.i .i64 0))) :: (40, (.d (.b (if (if (!y2) = true then true else (!decide (y3 = x3))) = true then true else (!y4))))) :: (39, (.ite (true && ((if (!y2) = true then true else (!decide (y3 = x3))) == false)) (.d (.b (!y4))))) :: (38, (.ite (true && ((if (!y2) = true then true else (!decide (y3 = x3))) == false)) (.d (.b y4)))) :: (37, (.ite (true && ((if (!y2) = true then true else (!decide (y3 = x3))) == false)) (.d (.i .i64 (y1.cols.length : Int))))) :: (36, (.ite (true && ((if (!y2) = true then true else (!decide (y3 = x3))) == false)) (.d (.sl 2 (y1.cols.map cGCol))))) :: (35, (.ite (true && ((if (!y2) = true then true else (!decide (y3 = x3))) == false)) (.ptr 4 1))) :: (34, (.d (.b (if (!y2) = true then true else (!decide (y3 = x3)))))) :: (33, (.d (.b (if (!y2) = true then true else (!decide (y3 = x3)))))) :: (32, (.ite (true && ((!y2) == false)) (.d (.b (!decide (y3 = x3)))))) :: (31, (.ite (true && ((!y2) == false)) (.d (.i .i64 x3)))) :: (30, (.ite (true && ((!y2) == false)) (.d (.i .i64 y3)))) :: (29, (.ite (true && ((!y2) == false)) (.d (.s (bs y1.name))))) :: (28, (.ite (true && ((!y2) == false)) (.ptr 4 0))) :: (27, (.ite (true && ((!y2) == false)) (vGCatalog p0))) :: (26, (.d (.b (!y2)))) :: (25, (.d (.b (!y2)))) :: (24, (.d (.b y2))) :: (23, (.d (.s (bs y1.name)))) :: (22, (.ptr 4 0)) :: (4, (.ptr 4 0)) :: (21, (vGTable y1)) :: (20, (.rp [(.s (bs y1.name)), (.sl 2 (y1.cols.map cGCol))])) :: (19, (.d (.i .i64 x3))) :: (18, (.d (.sl 2 (p0.tables.map cGTable)))) :: (17, (.ptr 1 0)) :: (14, (.d (.b (decide (x3 < (p0.tables.length : Int)))))) :: (13, (.d (.i .i64 (p0.tables.length : Int)))) :: (12, (.d (.sl 2 (p0.tables.map cGTable)))) :: (11, (.ptr 1 0)) :: (10, (.d (.i .i64 x3))) :: (stsCatalogOk_L0 p0 x3).env, [(4, [(.d (.s (bs y1.name))), (.d (.sl 2 (y1.cols.map cGCol)))]), (1, [(.d (.sl 2 (p0.tables.map cGTable)))])]⟩) (by kernel_rfl) ?_
        refine nil_in ?_
        refine next_in ?_
        refine block_in ?_
        exact loop_go (s' := stsCatalogOk_L1 x3 p0 y1 0) (wk_ren [] (by kernel_rfl) (er_cons (vr_same (by kernel_rfl) (by kernel_rfl)) (er_cons (vr_same (by kernel_rfl) (by kernel_rfl)) (er_cons (vr_same (by kernel_rfl) (by kernel_rfl)) (er_cons (vr_same (by kernel_rfl) (by kernel_rfl)) (er_nil))))) (br_same (by kernel_rfl) (by kernel_rfl) (br_same (by kernel_rfl) (by kernel_rfl) (br_nil)))) (OK_sCatalogOk_L1 x3 y1 0 _ h)
    · clear h; intro h
      refine exit_in ?_
      refine thenK_exit ?_
      refine thenK_exit ?_
      refine blockK_here ?_
      refine next_in ?_
      refine seq_in ?_
      refine ops_in ?_
      refine sts_ok 1 (s' := ⟨(2, (.d (.b true))) :: (14, (.d (.b (decide (x3 < (p0.tables.length : Int)))))) :: (13, (.d (.i .i64 (p0.tables.length : Int)))) :: (12, (.d (.sl 2 (p0.tables.map cGTable)))) :: (11, (.ptr 1 0)) :: (10, (.d (.i .i64 x3))) :: (stsCatalogOk_L0 p0 x3).env, (stsCatalogOk_L0 p0 x3).bx⟩) (by kernel_rfl) ?_
      refine nil_in ?_
      refine next_in ?_
      refine ret_in ?_
      have h := Option.some.inj h; subst h
      exact ret1_step (v := (.d (.b true))) (by kernel_rfl) (by kernel_rfl) (by kernel_rfl)
theorem OK_sCatalogOk_L1 (x3 : Int) (p0 : GCatalog) (y1 : GTable) (x5 : Int) (r : Bool) (h : sCatalogOk_L1 x3 p0 y1 x5 = some r) : avc Try.prog acsCatalogOk_L1 (qsCatalogOk_5 r) (stsCatalogOk_L1 x3 p0 y1 x5) := (OKs_sCatalogOk_L1 p0).1 x3 y1 x5 r h
theorem OK_sCatalogOk_L0 (p0 : GCatalog) (x3 : Int) (r : Bool) (h : sCatalogOk_L0 p0 x3 = some r) : avc Try.prog acsCatalogOk_L0 (qsCatalogOk_1 r) (stsCatalogOk_L0 p0 x3) := (OKs_sCatalogOk_L1 p0).2 x3 r h
theorem OK_sCatalogOk (p0 : GCatalog) : FOk Try.prog 82 [(vGCatalog p0)] (fun y => (.d (.b y))) (sCatalogOk p0) := by
  intro r h
  rw [sCatalogOk] at h
  refine acalls_of_fn trsCatalogOk (Nat.le_of_ble_eq_true rfl) (by simp) ?_
  show avc Try.prog acsCatalogOk (qsCatalogOk _) ⟨[(0, (vGCatalog p0))], []⟩
  delta acsCatalogOk
  refine seq_in ?_
  refine ops_in ?_
  refine sts_ok 2 (s' := ⟨[(2, (.d (.b false))), (1, (.ptr 1 0)), (0, (vGCatalog p0))], [(1, [(.d (.sl 2 (p0.tables.map cGTable)))])]⟩) (by kernel_rfl) ?_
  refine nil_in ?_
  refine next_in ?_
  refine seq_in ?_
  refine seq_in ?_
  refine ops_in ?_
  refine sts_ok 2 (s' := ⟨[(7, (.d (.sl 2 (p0.tables.map cGTable)))), (6, (.ptr 1 0)), (2, (.d (.b false))), (1, (.ptr 1 0)), (0, (vGCatalog p0))], [(1, [(.d (.sl 2 (p0.tables.map cGTable)))])]⟩) (by kernel_rfl) ?_
  refine p_step (v' := (.d (.i .i64 (p0.tables.length : Int)))) rfl rfl (vop_len (sz := 2) (l := p0.tables) (f := cGTable) (by kernel_rfl) (by kernel_rfl)) ?_
  refine sts_ok 1 (s' := ⟨[(9, (.d (.b (decide (4 < (p0.tables.length : Int)))))), (8, (.d (.i .i64 (p0.tables.length : Int)))), (7, (.d (.sl 2 (p0.tables.map cGTable)))), (6, (.ptr 1 0)), (2, (.d (.b false))), (1, (.ptr 1 0)), (0, (vGCatalog p0))], [(1, [(.d (.sl 2 (p0.tables.map cGTable)))])]⟩) (by kernel_rfl) ?_
  refine nil_in ?_
  refine next_in ?_
  refine cond_step h (by kernel_rfl) ?_ ?_
  · clear h; intro h
    refine seq_in ?_
    refine ops_in ?_
    refine sts_ok 1 (s' := ⟨[(2, (.d (.b false))), (9, (.d (.b (decide (4 < (p0.tables.length : Int)))))), (8, (.d (.i .i64 (p0.tables.length : Int)))), (7, (.d (.sl 2 (p0.tables.map cGTable)))), (6, (.ptr 1 0)), (2, (.d (.b false))), (1, (.ptr 1 0)), (0, (vGCatalog p0))], [(1, [(.d (.sl 2 (p0.tables.map cGTable)))])]⟩) (by kernel_rfl) ?_
    refine nil_in ?_
    refine next_in ?_
    refine ret_in ?_
    refine thenK_ret ?_
    have h := Option.some.inj h; subst h
    exact ret1_step (v := (.d (.b false))) (by kernel_rfl) (by kernel_rfl) (by kernel_rfl)
  · clear h; intro h
    refine skip_in ?_
    refine next_in ?_
    refine seq_in ?_
    refine seq_in ?_
    refine ops_in ?_
    refine sts_ok 1 (s' := ⟨[(3, (.d (.i .i64 0))), (9, (.d (.b (decide (4 < (p0.tables.length : Int)))))), (8, (.d (.i .i64 (p0.tables.length : Int)))), (7, (.d (.sl 2 (p0.tables.map cGTable)))), (6, (.ptr 1 0)), (2, (.d (.b false))), (1, (.ptr 1 0)), (0, (vGCatalog p0))], [(1, [(.d (.sl 2 (p0.tables.map cGTable)))])]⟩) (by kernel_rfl) ?_
    refine nil_in ?_
    refine next_in ?_
    refine block_in ?_
    exact loop_go (s' := stsCatalogOk_L0 p0 0) (wk_ren [] (by kernel_rfl) (er_cons (vr_same (by kernel_rfl) (by kernel_rfl)) (er_cons (vr_same (by kernel_rfl) (by kernel_rfl)) (er_nil))) (br_same (by kernel_rfl) (by kernel_rfl) (br_nil))) (OK_sCatalogOk_L0 p0 0 _ h)
theorem OK_sValueOk (p0 : GValue) : FOk Try.prog 122 [(vGValue p0)] (fun y => (.d (.b y))) (sValueOk p0) := by
  intro r h
  rw [sValueOk] at h
  refine acalls_of_fn trsValueOk (Nat.le_of_ble_eq_true rfl) (by simp) ?_
  show avc Try.prog acsValueOk (qsValueOk _) ⟨[(0, (vGValue p0))], []⟩
  delta acsValueOk
  refine seq_in ?_
  refine ops_in ?_
  refine sts_ok 2 (s' := ⟨[(2, (.d (.b false))), (1, (.ptr 1 0)), (0, (vGValue p0))], [(1, [(.d (.i .i64 p0.kind)), (.d (.i .i64 p0.num)), (.d (.s (bs p0.text)))])]⟩) (by kernel_rfl) ?_
  refine nil_in ?_
  refine next_in ?_
  refine seq_in ?_
  refine seq_in ?_
  refine ops_in ?_
  refine sts_ok 2 (s' := ⟨[(4, (.d (.i .i64 p0.kind))), (3, (.ptr 1 0)), (2, (.d (.b false))), (1, (.ptr 1 0)), (0, (vGValue p0))], [(1, [(.d (.i .i64 p0.kind)), (.d (.i .i64 p0.num)), (.d (.s (bs p0.text)))])]⟩) (by kernel_rfl) ?_
  refine nil_in ?_
  refine next_in ?_
  refine block_in ?_
  refine seq_in ?_
  refine ops_in ?_
  refine sts_ok 2 (s' := ⟨[(5, (.d (.b (decide (p0.kind = 0))))), (6, (.d (.b (decide (p0.kind = 0))))), (4, (.d (.i .i64 p0.kind))), (3, (.ptr 1 0)), (2, (.d (.b false))), (1, (.ptr 1 0)), (0, (vGValue p0))], [(1, [(.d (.i .i64 p0.kind)), (.d (.i .i64 p0.num)), (.d (.s (bs p0.text)))])]⟩) (by kernel_rfl) ?_
  refine nil_in ?_
  refine next_in ?_
  refine cond_step h (by kernel_rfl) ?_ ?_
  · clear h; intro h
    refine seq_in ?_
    refine ops_in ?_
    refine sts_ok 4 (s' := ⟨[(10, (.d (.b (decide (p0.num = 0))))), (9, (.d (.b (decide (p0.num = 0))))), (8, (.d (.i .i64 p0.num))), (7, (.ptr 1 1)), (5, (.d (.b (decide (p0.kind = 0))))), (6, (.d (.b (decide (p0.kind = 0))))), (4, (.d (.i .i64 p0.kind))), (3, (.ptr 1 0)), (2, (.d (.b false))), (1, (.ptr 1 0)), (0, (vGValue p0))], [(1, [(.d (.i .i64 p0.kind)), (.d (.i .i64 p0.num)), (.d (.s (bs p0.text)))])]⟩) (by kernel_rfl) ?_
    refine gp_step (p := true) (b := (decide (p0.num = 0))) (v' := (.ptr 1 2)) (by kernel_rfl) rfl rfl (fun hc => vop_val1 (by kernel_rfl) (by kernel_rfl)) ?_
    refine gp_step (p := true) (b := (decide (p0.num = 0))) (v' := (.d (.s (bs p0.text)))) (by kernel_rfl) rfl rfl (fun hc => vop_val1 (Eq.trans (b := ([(true && ((decide (p0.num = 0)) == true))] : List Bool).all id) (by kernel_rfl) (all_c hc rfl)) (by kernel_rfl)) ?_
    refine gp_step (p := true) (b := (decide (p0.num = 0))) (v' := (.d (.b (decide (p0.text = []))))) (by kernel_rfl) rfl rfl (fun hc => vop_val1 (Eq.trans (b := ([(true && ((decide (p0.num = 0)) == true))] : List Bool).all id) (by kernel_rfl) (all_c hc rfl)) (by kernel_rfl)) ?_
    refine p_step (v' := (.d (.b (if (decide (p0.num = 0)) = true then (decide (p0.text = [])) else false)))) rfl rfl (vop_pick (b := (decide (p0.num = 0))) (p := (true && ((decide (p0.num = 0)) == true))) (u := (decide (p0.text = []))) (q := true) (v := false) (by kernel_rfl) (by kernel_rfl) (by kernel_rfl) (by kernel_rfl) (fun hb => gc_t rfl hb) (fun _ => rfl)) ?_
    refine sts_ok 1 (s' := ⟨[(2, (.d (.b (if (decide (p0.num = 0)) = true then (decide (p0.text = [])) else false)))), (14, (.d (.b (if (decide (p0.num = 0)) = true then (decide (p0.text = [])) else false)))), (13, (.ite (true && ((decide (p0.num = 0)) == true)) (.d (.b (decide (p0.text = [])))))), (12, (.ite (true && ((decide (p0.num = 0)) == true)) (.d (.s (bs p0.text))))), (11, (.ite (true && ((decide (p0.num = 0)) == true)) (.ptr 1 2))), (10, (.d (.b (decide (p0.num = 0))))), (9, (.d (.b (decide (p0.num = 0))))), (8, (.d (.i .i64 p0.num))), (7, (.ptr 1 1)), (5, (.d (.b (decide (p0.kind = 0))))), (6, (.d (.b (decide (p0.kind = 0))))), (4, (.d (.i .i64 p0.kind))), (3, (.ptr 1 0)), (2, (.d (.b false))), (1, (.ptr 1 0)), (0, (vGValue p0))], [(1, [(.d (.i .i64 p0.kind)), (.d (.i .i64 p0.num)), (.d (.s (bs p0.text)))])]⟩) (by kernel_rfl) ?_
    refine nil_in ?_
    refine next_in ?_
    refine ret_in ?_
    refine blockK_ret ?_
    refine thenK_ret ?_
    have h := Option.some.inj h; subst h
    exact ret1_step (v := (.d (.b (if (decide (p0.num = 0)) = true then (decide (p0.text = [])) else false)))) (by kernel_rfl) (by kernel_rfl) (by kernel_rfl)
  · clear h; intro h
    refine seq_in ?_
    refine ops_in ?_
    refine sts_ok 2 (s' := ⟨[(15, (.d (.b (decide (p0.kind = 1))))), (16, (.d (.b (decide (p0.kind = 1))))), (5, (.d (.b (decide (p0.kind = 0))))), (6, (.d (.b (decide (p0.kind = 0))))), (4, (.d (.i .i64 p0.kind))), (3, (.ptr 1 0)), (2, (.d (.b false))), (1, (.ptr 1 0)), (0, (vGValue p0))], [(1, [(.d (.i .i64 p0.kind)), (.d (.i .i64 p0.num)), (.d (.s (bs p0.text)))])]⟩) (by kernel_rfl) ?_
    refine nil_in ?_
    refine next_in ?_
    refine cond_step h (by kernel_rfl) ?_ ?_
    · clear h; intro h
      refine seq_in ?_
      refine ops_in ?_
      refine sts_ok 4 (s' := ⟨[(2, (.d (.b (decide (p0.text = []))))), (19, (.d (.b (decide (p0.text = []))))), (18, (.d (.s (bs p0.text)))), (17, (.ptr 1 2)), (15, (.d (.b (decide (p0.kind = 1))))), (16, (.d (.b (decide (p0.kind = 1))))), (5, (.d (.b (decide (p0.kind = 0))))), (6, (.d (.b (decide (p0.kind = 0))))), (4, (.d (.i .i64 p0.kind))), (3, (.ptr 1 0)), (2, (.d (.b false))), (1, (.ptr 1 0)), (0, (vGValue p0))], [(1, [(.d (.i .i64 p0.kind)), (.d (.i .i64 p0.num)), (.d (.s (bs p0.text)))])]⟩) (by kernel_rfl) ?_
      refine nil_in ?_
      refine next_in ?_
      refine ret_in ?_
      refine blockK_ret ?_
      refine thenK_ret ?_
      have h := Option.some.inj h; subst h
      exact ret1_step (v := (.d (.b (decide (p0.text = []))))) (by kernel_rfl) (by kernel_rfl) (by kernel_rfl)
    · clear h; intro h
      refine seq_in ?_
      refine ops_in ?_
      refine sts_ok 2 (s' := ⟨[(20, (.d (.b (decide (p0.kind = 2))))), (21, (.d (.b (decide (p0.kind = 2))))), (15, (.d (.b (decide (p0.kind = 1))))), (16, (.d (.b (decide (p0.kind = 1))))), (5, (.d (.b (decide (p0.kind = 0))))), (6, (.d (.b (decide (p0.kind = 0))))), (4, (.d (.i .i64 p0.kind))), (3, (.ptr 1 0)), (2, (.d (.b false))), (1, (.ptr 1 0)), (0, (vGValue p0))], [(1, [(.d (.i .i64 p0.kind)), (.d (.i .i64 p0.num)), (.d (.s (bs p0.text)))])]⟩) (by kernel_rfl) ?_
      refine nil_in ?_
      refine next_in ?_
      refine cond_step h (by kernel_rfl) ?_ ?_
      · clear h; intro h
        refine seq_in ?_
        refine ops_in ?_
        refine sts_ok 4 (s' := ⟨[(25, (.d (.b (decide (p0.num = 0))))), (24, (.d (.b (decide (p0.num = 0))))), (23, (.d (.i .i64 p0.num))), (22, (.ptr 1 1)), (20, (.d (.b (decide (p0.kind = 2))))), (21, (.d (.b (decide (p0.kind = 2))))), (15, (.d (.b (decide (p0.kind = 1))))), (16, (.d (.b (decide (p0.kind = 1))))), (5, (.d (.b (decide (p0.kind = 0))))), (6, (.d (.b (decide (p0.kind = 0))))), (4, (.d (.i .i64 p0.kind))), (3, (.ptr 1 0)), (2, (.d (.b false))), (1, (.ptr 1 0)), (0, (vGValue p0))], [(1, [(.d (.i .i64 p0.kind)), (.d (.i .i64 p0.num)), (.d (.s (bs p0.text)))])]⟩) (by kernel_rfl) ?_
        refine gp_step (p := true) (b := (decide (p0.num = 0))) (v' := (.ptr 1 2)) (by kernel_rfl) rfl rfl (fun hc => vop_val1 (by kernel_rfl) (by kernel_rfl)) ?_
        refine gp_step (p := true) (b := (decide (p0.num = 0))) (v' := (.d (.s (bs p0.text)))) (by kernel_rfl) rfl rfl (fun hc => vop_val1 (Eq.trans (b := ([(true && ((decide (p0.num = 0)) == true))] : List Bool).all id) (by kernel_rfl) (all_c hc rfl)) (by kernel_rfl)) ?_
        refine gp_step (p := true) (b := (decide (p0.num = 0))) (v' := (.d (.i .i64 (p0.text.length : Int)))) (by kernel_rfl) rfl rfl (fun hc => vop_val1 (Eq.trans (b := ([(true && ((decide (p0.num = 0)) == true))] : List Bool).all id) (by kernel_rfl) (all_c hc rfl)) (by kernel_rfl)) ?_
        refine gp_step (p := true) (b := (decide (p0.num = 0))) (v' := (.d (.b (decide ((p0.text.length : Int) ≤ 200))))) (by kernel_rfl) rfl rfl (fun hc => vop_val1 (Eq.trans (b := ([(true && ((decide (p0.num = 0)) == true))] : List Bool).all id) (by kernel_rfl) (all_c hc rfl)) (by kernel_rfl)) ?_
        refine p_step (v' := (.d (.b (if (decide (p0.num = 0)) = true then (decide ((p0.text.length : Int) ≤ 200)) else false)))) rfl rfl (vop_pick (b := (decide (p0.num = 0))) (p := (true && ((decide (p0.num = 0)) == true))) (u := (decide ((p0.text.length : Int) ≤ 200))) (q := true) (v := false) (by kernel_rfl) (by kernel_rfl) (by kernel_rfl) (by kernel_rfl) (fun hb => gc_t rfl hb) (fun _ => rfl)) ?_
        refine sts_ok 1 (s' := ⟨[(2, (.d (.b (if (decide (p0.num = 0)) = true then (decide ((p0.text.length : Int) ≤ 200)) else false)))), (30, (.d (.b (if (decide (p0.num = 0)) = true then (decide ((p0.text.length : Int) ≤ 200)) else false)))), (29, (.ite (true && ((decide (p0.num = 0)) == true)) (.d (.b (decide ((p0.text.length : Int) ≤ 200)))))), (28, (.ite (true && ((decide (p0.num = 0)) == true)) (.d (.i .i64 (p0.text.length : Int))))), (27, (.ite (true && ((decide (p0.num = 0)) == true)) (.d (.s (bs p0.text))))), (26, (.ite (true && ((decide (p0.num = 0)) == true)) (.ptr 1 2))), (25, (.d (.b (decide (p0.num = 0))))), (24, (.d (.b (decide (p0.num = 0))))), (23, (.d (.i .i64 p0.num))), (22, (.ptr 1 1)), (20, (.d (.b (decide (p0.kind = 2))))), (21, (.d (.b (decide (p0.kind = 2))))), (15, (.d (.b (decide (p0.kind = 1))))), (16, (.d (.b (decide (p0.kind = 1))))), (5, (.d (.b (decide (p0.kind = 0))))), (6, (.d (.b (decide (p0.kind = 0))))), (4, (.d (.i .i64 p0.kind))), (3, (.ptr 1 0)), (2, (.d (.b false))), (1, (.ptr 1 0)), (0, (vGValue p0))], [(1, [(.d (.i .i64 p0.kind)), (.d (.i .i64 p0.num)), (.d (.s (bs p0.text)))])]⟩) (by kernel_rfl) ?_
        refine nil_in ?_
        refine next_in ?_
        refine ret_in ?_
        refine blockK_ret ?_
        refine thenK_ret ?_
        have h := Option.some.inj h; subst h
        exact ret1_step (v := (.d (.b (if (decide (p0.num = 0)) = true then (decide ((p0.text.length : Int) ≤ 200)) else false)))) (by kernel_rfl) (by kernel_rfl) (by kernel_rfl)
      · clear h; intro h
        refine seq_in ?_
        refine ops_in ?_
        refine sts_ok 2 (s' := ⟨[(31, (.d (.b (decide (p0.kind = 3))))), (32, (.d (.b (decide (p0.kind = 3))))), (20, (.d (.b (decide (p0.kind = 2))))), (21, (.d (.b (decide (p0.kind = 2))))), (15, (.d (.b (decide (p0.kind = 1))))), (16, (.d (.b (decide (p0.kind = 1))))), (5, (.d (.b (decide (p0.kind = 0))))), (6, (.d (.b (decide (p0.kind = 0))))), (4, (.d (.i .i64 p0.kind))), (3, (.ptr 1 0)), (2, (.d (.b false))), (1, (.ptr 1 0)), (0, (vGValue p0))], [(1, [(.d (.i .i64 p0.kind)), (.d (.i .i64 p0.num)), (.d (.s (bs p0.text)))])]⟩) (by kernel_rfl) ?_
        refine nil_in ?_
        refine next_in ?_
        refine cond_step h (by kernel_rfl) ?_ ?_
        · clear h; intro h
          refine seq_in ?_
          refine ops_in ?_
          refine sts_ok 2 (s' := ⟨[(34, (.d (.i .i64 p0.num))), (33, (.ptr 1 1)), (31, (.d (.b (decide (p0.kind = 3))))), (32, (.d (.b (decide (p0.kind = 3))))), (20, (.d (.b (decide (p0.kind = 2))))), (21, (.d (.b (decide (p0.kind = 2))))), (15, (.d (.b (decide (p0.kind = 1))))), (16, (.d (.b (decide (p0.kind = 1))))), (5, (.d (.b (decide (p0.kind = 0))))), (6, (.d (.b (decide (p0.kind = 0))))), (4, (.d (.i .i64 p0.kind))), (3, (.ptr 1 0)), (2, (.d (.b false))), (1, (.ptr 1 0)), (0, (vGValue p0))], [(1, [(.d (.i .i64 p0.kind)), (.d (.i .i64 p0.num)), (.d (.s (bs p0.text)))])]⟩) (by kernel_rfl) ?_
          refine call_step (m := sL1In p0.num 0 1) (args := [(.d (.i .i64 p0.num)), (.d (.i .i64 0)), (.d (.i .i64 1))]) (v' := (fun y => (.d (.b y)))) h (OK_sL1In p0.num 0 1) (by kernel_rfl) (by kernel_rfl) (fun _ => rfl) ?_
          clear h; intro y1 h
          refine sts_ok 1 (s' := ⟨[(36, (.d (.b y1))), (35, (.d (.b y1))), (34, (.d (.i .i64 p0.num))), (33, (.ptr 1 1)), (31, (.d (.b (decide (p0.kind = 3))))), (32, (.d (.b (decide (p0.kind = 3))))), (20, (.d (.b (decide (p0.kind = 2))))), (21, (.d (.b (decide (p0.kind = 2))))), (15, (.d (.b (decide (p0.kind = 1))))), (16, (.d (.b (decide (p0.kind = 1))))), (5, (.d (.b (decide (p0.kind = 0))))), (6, (.d (.b (decide (p0.kind = 0))))), (4, (.d (.i .i64 p0.kind))), (3, (.ptr 1 0)), (2, (.d (.b false))), (1, (.ptr 1 0)), (0, (vGValue p0))], [(1, [(.d (.i .i64 p0.kind)), (.d (.i .i64 p0.num)), (.d (.s (bs p0.text)))])]⟩) (by kernel_rfl) ?_
          refine gp_step (p := true) (b := y1) (v' := (.ptr 1 2)) (by kernel_rfl) rfl rfl (fun hc => vop_val1 (by kernel_rfl) (by kernel_rfl)) ?_
          refine gp_step (p := true) (b := y1) (v' := (.d (.s (bs p0.text)))) (by kernel_rfl) rfl rfl (fun hc => vop_val1 (Eq.trans (b := ([(true && (y1 == true))] : List Bool).all id) (by kernel_rfl) (all_c hc rfl)) (by kernel_rfl)) ?_
          refine gp_step (p := true) (b := y1) (v' := (.d (.b (decide (p0.text = []))))) (by kernel_rfl) rfl rfl (fun hc => vop_val1 (Eq.trans (b := ([(true && (y1 == true))] : List Bool).all id) (by kernel_rfl) (all_c hc rfl)) (by kernel_rfl)) ?_
          refine p_step (v' := (.d (.b (if y1 = true then (decide (p0.text = [])) else false)))) rfl rfl (vop_pick (b := y1) (p := (true && (y1 == true))) (u := (decide (p0.text = []))) (q := true) (v := false) (by kernel_rfl) (by kernel_rfl) (by kernel_rfl) (by kernel_rfl) (fun hb => gc_t rfl hb) (fun _ => rfl)) ?_
          refine sts_ok 1 (s' := ⟨[(2, (.d (.b (if y1 = true then (decide (p0.text = [])) else false)))), (40, (.d (.b (if y1 = true then (decide (p0.text = [])) else false)))), (39, (.ite (true && (y1 == true)) (.d (.b (decide (p0.text = [])))))), (38, (.ite (true && (y1 == true)) (.d (.s (bs p0.text))))), (37, (.ite (true && (y1 == true)) (.ptr 1 2))), (36, (.d (.b y1))), (35, (.d (.b y1))), (34, (.d (.i .i64 p0.num))), (33, (.ptr 1 1)), (31, (.d (.b (decide (p0.kind = 3))))), (32, (.d (.b (decide (p0.kind = 3))))), (20, (.d (.b (decide (p0.kind = 2))))), (21, (.d (.b (decide (p0.kind = 2))))), (15, (.d (.b (decide (p0.kind = 1))))), (16, (.d (.b (decide (p0.kind = 1))))), (5, (.d (.b (decide (p0.kind = 0))))), (6, (.d (.b (decide (p0.kind = 0))))), (4, (.d (.i .i64 p0.kind))), (3, (.ptr 1 0)), (2, (.d (.b false))), (1, (.ptr 1 0)), (0, (vGValue p0))], [(1, [(.d (.i .i64 p0.kind)), (.d (.i .i64 p0.num)), (.d (.s (bs p0.text)))])]⟩) (by kernel_rfl) ?_
          refine nil_in ?_
          refine next_in ?_
          refine ret_in ?_
          refine blockK_ret ?_
          refine thenK_ret ?_
          have h := Option.some.inj h; subst h
          exact ret1_step (v := (.d (.b (if y1 = true then (decide (p0.text = [])) else false)))) (by kernel_rfl) (by kernel_rfl) (by kernel_rfl)
        · clear h; intro h
          refine skip_in ?_
          refine blockK_norm ?_
          refine next_in ?_
          refine seq_in ?_
          refine ops_in ?_
          refine sts_ok 1 (s' := ⟨[(2, (.d (.b false))), (31, (.d (.b (decide (p0.kind = 3))))), (32, (.d (.b (decide (p0.kind = 3))))), (20, (.d (.b (decide (p0.kind = 2))))), (21, (.d (.b (decide (p0.kind = 2))))), (15, (.d (.b (decide (p0.kind = 1))))), (16, (.d (.b (decide (p0.kind = 1))))), (5, (.d (.b (decide (p0.kind = 0))))), (6, (.d (.b (decide (p0.kind = 0))))), (4, (.d (.i .i64 p0.kind))), (3, (.ptr 1 0)), (2, (.d (.b false))), (1, (.ptr 1 0)), (0, (vGValue p0))], [(1, [(.d (.i .i64 p0.kind)), (.d (.i .i64 p0.num)), (.d (.s (bs p0.text)))])]⟩) (by kernel_rfl) ?_
          refine nil_in ?_
          refine next_in ?_
          refine ret_in ?_
          have h := Option.some.inj h; subst h
          exact ret1_step (v := (.d (.b false))) (by kernel_rfl) (by kernel_rfl) (by kernel_rfl)
theorem OK_sFitsType (p0 : GValue) (p1 : Int) : FOk Try.prog 158 [(vGValue p0), (.d (.i .i64 p1))] (fun y => (.d (.b y))) (sFitsType p0 p1) := by
  intro r h
  rw [sFitsType] at h
  refine acalls_of_fn trsFitsType (Nat.le_of_ble_eq_true rfl) (by simp) ?_
  show avc Try.prog acsFitsType (qsFitsType _) ⟨[(0, (vGValue p0)), (1, (.d (.i .i64 p1)))], []⟩
  delta acsFitsType
  refine seq_in ?_
  refine ops_in ?_
  refine sts_ok 2 (s' := ⟨[(4, (.d (.b false))), (2, (.ptr 2 0)), (0, (vGValue p0)), (1, (.d (.i .i64 p1)))], [(2, [(.d (.i .i64 p0.kind)), (.d (.i .i64 p0.num)), (.d (.s (bs p0.text)))])]⟩) (by kernel_rfl) ?_
  refine nil_in ?_
  refine next_in ?_
  refine seq_in ?_
  refine ops_in ?_
  refine sts_ok 1 (s' := ⟨[(5, (vGValue p0)), (4, (.d (.b false))), (2, (.ptr 2 0)), (0, (vGValue p0)), (1, (.d (.i .i64 p1)))], [(2, [(.d (.i .i64 p0.kind)), (.d (.i .i64 p0.num)), (.d (.s (bs p0.text)))])]⟩) (by kernel_rfl) ?_
  refine call_step (m := sValueOk p0) (args := [(vGValue p0)]) (v' := (fun y => (.d (.b y)))) h (OK_sValueOk p0) (by kernel_rfl) (by kernel_rfl) (fun _ => rfl) ?_
  clear h; intro y1 h
  refine sts_ok 1 (s' := ⟨[(7, (.d (.b y1))), (6, (.d (.b y1))), (5, (vGValue p0)), (4, (.d (.b false))), (2, (.ptr 2 0)), (0, (vGValue p0)), (1, (.d (.i .i64 p1)))], [(2, [(.d (.i .i64 p0.kind)), (.d (.i .i64 p0.num)), (.d (.s (bs p0.text)))])]⟩) (by kernel_rfl) ?_
  refine gp_step (p := true) (b := y1) (v' := (.ptr 2 0)) (by kernel_rfl) rfl rfl (fun hc => vop_val1 (by kernel_rfl) (by kernel_rfl)) ?_
  refine gp_step (p := true) (b := y1) (v' := (.d (.i .i64 p0.kind))) (by kernel_rfl) rfl rfl (fun hc => vop_val1 (Eq.trans (b := ([(true && (y1 == true))] : List Bool).all id) (by kernel_rfl) (all_c hc rfl)) (by kernel_rfl)) ?_
  refine gp_step (p := true) (b := y1) (v' := (.d (.b (decide (p0.kind = 0))))) (by kernel_rfl) rfl rfl (fun hc => vop_val1 (Eq.trans (b := ([(true && (y1 == true))] : List Bool).all id) (by kernel_rfl) (all_c hc rfl)) (by kernel_rfl)) ?_
  refine gp_step (p := true) (b := y1) (v' := (.d (.b (decide (p0.kind = 0))))) (by kernel_rfl) rfl rfl (fun hc => vop_val1 (Eq.trans (b := ([(true && (y1 == true))] : List Bool).all id) (by kernel_rfl) (all_c hc rfl)) (by kernel_rfl)) ?_
  refine gp_step (p := (true && (y1 == true))) (b := (decide (p0.kind = 0))) (v' := (.ptr 2 0)) (by kernel_rfl) rfl rfl (fun hc => vop_val1 (by kernel_rfl) (by kernel_rfl)) ?_
  refine gp_step (p := (true && (y1 == true))) (b := (decide (p0.kind = 0))) (v' := (.d (.i .i64 p0.kind))) (by kernel_rfl) rfl rfl (fun hc => vop_val1 (Eq.trans (b := ([((true && (y1 == true)) && ((decide (p0.kind = 0)) == false))] : List Bool).all id) (by kernel_rfl) (all_c hc rfl)) (by kernel_rfl)) ?_
  refine gp_step (p := (true && (y1 == true))) (b := (decide (p0.kind = 0))) (v' := (.d (.i .i64 p1))) (by kernel_rfl) rfl rfl (fun hc => vop_val1 (by kernel_rfl) (by kernel_rfl)) ?_
  refine gp_step (p := (true && (y1 == true))) (b := (decide (p0.kind = 0))) (v' := (.d (.b (decide (p0.kind = p1))))) (by kernel_rfl) rfl rfl (fun hc => vop_val1 (Eq.trans (b := ([((true && (y1 == true)) && ((decide (p0.kind = 0)) == false)), ((true && (y1 == true)) && ((decide (p0.kind = 0)) == false))] : List Bool).all id) (by kernel_rfl) (all_c hc (all_c hc rfl))) (by kernel_rfl)) ?_
  refine gp_step (p := true) (b := y1) (v' := (.d (.b (if (decide (p0.kind = 0)) = true then true else (decide (p0.kind = p1)))))) (by kernel_rfl) rfl rfl (fun hc => vop_pick (b := (decide (p0.kind = 0))) (p := true) (u := true) (q := ((true && (y1 == true)) && ((decide (p0.kind = 0)) == false))) (v := (decide (p0.kind = p1))) (Eq.trans (b := ([(true && (y1 == true))] : List Bool).all id) (by kernel_rfl) (all_c hc rfl)) (by kernel_rfl) (by kernel_rfl) (by kernel_rfl) (fun _ => rfl) (fun hb => gc_f hc hb)) ?_
  refine p_step (v' := (.d (.b (if y1 = true then (if (decide (p0.kind = 0)) = true then true else (decide (p0.kind = p1))) else false)))) rfl rfl (vop_pick (b := y1) (p := (true && (y1 == true))) (u := (if (decide (p0.kind = 0)) = true then true else (decide (p0.kind = p1)))) (q := true) (v := false) (by kernel_rfl) (by kernel_rfl) (by kernel_rfl) (by kernel_rfl) (fun hb => gc_t rfl hb) (fun _ => rfl)) ?_
  refine sts_ok 1 (s' := ⟨[(4, (.d (.b (if y1 = true then (if (decide (p0.kind = 0)) = true then true else (decide (p0.kind = p1))) else false)))), (17, (.d (.b (if y1 = true then (if (decide (p0.kind = 0)) = true then true else (decide (p0.kind = p1))) else false)))), (16, (.ite (true && (y1 == true)) (.d (.b (if (decide (p0.kind = 0)) = true then true else (decide (p0.kind = p1))))))), (15, (.ite ((true && (y1 == true)) && ((decide (p0.kind = 0)) == false)) (.d (.b (decide (p0.kind = p1)))))), (14, (.ite ((true && (y1 == true)) && ((decide (p0.kind = 0)) == false)) (.d (.i .i64 p1)))), (13, (.ite ((true && (y1 == true)) && ((decide (p0.kind = 0)) == false)) (.d (.i .i64 p0.kind)))), (12, (.ite ((true && (y1 == true)) && ((decide (p0.kind = 0)) == false)) (.ptr 2 0))), (11, (.ite (true && (y1 == true)) (.d (.b (decide (p0.kind = 0)))))), (10, (.ite (true && (y1 == true)) (.d (.b (decide (p0.kind = 0)))))), (9, (.ite (true && (y1 == true)) (.d (.i .i64 p0.kind)))), (8, (.ite (true && (y1 == true)) (.ptr 2 0))), (7, (.d (.b y1))), (6, (.d (.b y1))), (5, (vGValue p0)), (4, (.d (.b false))), (2, (.ptr 2 0)), (0, (vGValue p0)), (1, (.d (.i .i64 p1)))], [(2, [(.d (.i .i64 p0.kind)), (.d (.i .i64 p0.num)), (.d (.s (bs p0.text)))])]⟩) (by kernel_rfl) ?_
  refine nil_in ?_
  refine next_in ?_
  refine ret_in ?_
  have h := Option.some.inj h; subst h
  exact ret1_step (v := (.d (.b (if y1 = true then (if (decide (p0.kind = 0)) = true then true else (decide (p0.kind = p1))) else false)))) (by kernel_rfl) (by kernel_rfl) (by kernel_rfl)
theorem OKs_sRowFits_L0 (p0 : (List GValue)) (p1 : (List Int)) : (∀ (x5 : Int) (r : Bool), sRowFits_L0 p0 p1 x5 = some r → avc Try.prog acsRowFits_L0 (qsRowFits_1 r) (stsRowFits_L0 p0 p1 x5)) := by
  refine sRowFits_L0.partial_correctness p0 p1 (fun x5 r => avc Try.prog acsRowFits_L0 (qsRowFits_1 r) (stsRowFits_L0 p0 p1 x5)) ?_
  · intro F_sRowFits_L0 OK_sRowFits_L0 x5 r h
    delta acsRowFits_L0
    refine loop_unroll ?_
    refine seq_in ?_
    refine seq_in ?_
    refine ops_in ?_
    refine sts_ok 2 (s' := ⟨(12, (.d (.sl 3 (p0.map cGValue)))) :: (11, (.d (.i .i64 x5))) :: (stsRowFits_L0 p0 p1 x5).env, (stsRowFits_L0 p0 p1 x5).bx⟩) (by kernel_rfl) ?_
    refine p_step (v' := (.d (.i .i64 (p0.length : Int)))) rfl rfl (vop_len (sz := 3) (l := p0) (f := cGValue) (by kernel_rfl) (by kernel_rfl)) ?_
    refine sts_ok 1 (s' := ⟨(14, (.d (.b (decide (x5 < (p0.length : Int)))))) :: (13, (.d (.i .i64 (p0.length : Int)))) :: (12, (.d (.sl 3 (p0.map cGValue)))) :: (11, (.d (.i .i64 x5))) :: (stsRowFits_L0 p0 p1 x5).env, (stsRowFits_L0 p0 p1 x5).bx⟩) (by kernel_rfl) ?_
    refine nil_in ?_
    refine next_in ?_
    refine cond_step h (by kernel_rfl) ?_ ?_
    · clear h; intro h
      refine skip_in ?_
      refine next_in ?_
      refine seq_in ?_
      refine block_in ?_
      refine seq_in ?_
      refine dops_in ?_
      refine dsts_ok 2 (s' := ⟨(18, (.d (.i .i64 x5))) :: (17, (.d (.sl 3 (p0.map cGValue)))) :: (14, (.d (.b (decide (x5 < (p0.length : Int)))))) :: (13, (.d (.i .i64 (p0.length : Int)))) :: (12, (.d (.sl 3 (p0.map cGValue)))) :: (11, (.d (.i .i64 x5))) :: (stsRowFits_L0 p0 p1 x5).env, (stsRowFits_L0 p0 p1 x5).bx⟩) (by kernel_rfl) ?_
      refine dv_step (m := idx p0 x5) (v' := fun y => (.rp [(.i .i64 y.kind), (.i .i64 y.num), (.s (bs y.text))])) h rfl rfl (fun y hy => vop_ia (l := p0) (f := cGValue) (g := cGValue) (k := .i64) hy (fun _ => rfl) (by kernel_rfl) (by kernel_rfl) (by kernel_rfl)) ?_
      clear h; intro y1 h
      refine dsts_ok 3 (s' := ⟨(22, (.d (.i .i64 x5))) :: (21, (.d (.sl 1 (p1.map cI)))) :: (20, (vGValue y1)) :: (19, (.rp [(.i .i64 y1.kind), (.i .i64 y1.num), (.s (bs y1.text))])) :: (18, (.d (.i .i64 x5))) :: (17, (.d (.sl 3 (p0.map cGValue)))) :: (14, (.d (.b (decide (x5 < (p0.length : Int)))))) :: (13, (.d (.i .i64 (p0.length : Int)))) :: (12, (.d (.sl 3 (p0.map cGValue)))) :: (11, (.d (.i .i64 x5))) :: (stsRowFits_L0 p0 p1 x5).env, (stsRowFits_L0 p0 p1 x5).bx⟩) (by kernel_rfl) ?_
      refine dv_step (m := idx p1 x5) (v' := fun y => (.rp [(.i .i64 y)])) h rfl rfl (fun y hy => vop_ia (l := p1) (f := cI) (g := cI) (k := .i64) hy (fun _ => rfl) (by kernel_rfl) (by kernel_rfl) (by kernel_rfl)) ?_
      clear h; intro y2 h
      refine dsts_ok 1 (s' := ⟨(24, (.d (.i .i64 y2))) :: (23, (.rp [(.i .i64 y2)])) :: (22, (.d (.i .i64 x5))) :: (21, (.d (.sl 1 (p1.map cI)))) :: (20, (vGValue y1)) :: (19, (.rp [(.i .i64 y1.kind), (.i .i64 y1.num), (.s (bs y1.text))])) :: (18, (.d (.i .i64 x5))) :: (17, (.d (.sl 3 (p0.map cGValue)))) :: (14, (.d (.b (decide (x5 < (p0.length : Int)))))) :: (13, (.d (.i .i64 (p0.length : Int)))) :: (12, (.d (.sl 3 (p0.map cGValue)))) :: (11, (.d (.i .i64 x5))) :: (stsRowFits_L0 p0 p1 x5).env, (stsRowFits_L0 p0 p1 x5).bx⟩) (by kernel_rfl) ?_
      refine dcall_step (m := sFitsType y1 y2) (args := [(vGValue y1), (.d (.i .i64 y2))]) (v' := (fun y => (.d (.b y)))) h (OK_sFitsType y1 y2) (by kernel_rfl) (by kernel_rfl) (fun _ => rfl) ?_
      clear h; intro y3 h
      refine dsts_ok 1 (s' := ⟨(26, (.d (.b (!y3)))) :: (25, (.d (.b y3))) :: (24, (.d (.i .i64 y2))) :: (23, (.rp [(.i .i64 y2)])) :: (22, (.d (.i .i64 x5))) :: (21, (.d (.sl 1 (p1.map cI)))) :: (20, (vGValue y1)) :: (19, (.rp [(.i .i64 y1.kind), (.i .i64 y1.num), (.s (bs y1.text))])) :: (18, (.d (.i .i64 x5))) :: (17, (.d (.sl 3 (p0.map cGValue)))) :: (14, (.d (.b (decide (x5 < (p0.length : Int)))))) :: (13, (.d (.i .i64 (p0.length : Int)))) :: (12, (.d (.sl 3 (p0.map cGValue)))) :: (11, (.d (.i .i64 x5))) :: (stsRowFits_L0 p0 p1 x5).env, (stsRowFits_L0 p0 p1 x5).bx⟩) (by kernel_rfl) ?_
      refine dnil_in (by kernel_rfl) (by kernel_rfl) ?_
      refine next_in ?_
      refine cond_step h (by kernel_rfl) ?_ ?_
      · clear h; intro h
        refine seq_in ?_
        refine ops_in ?_
        refine sts_ok 1 (s' := ⟨(4, (.d (.b false))) :: (26, (.d (.b (!y3)))) :: (25, (.d (.b y3))) :: (24, (.d (.i .i64 y2))) :: (23, (.rp [(.i .i64 y2)])) :: (22, (.d (.i .i64 x5))) :: (21, (.d (.sl 1 (p1.map cI)))) :: (20, (vGValue y1)) :: (19, (.rp [(.i .i64 y1.kind), (.i .i64 y1.num), (.s (bs y1.text))])) :: (18, (.d (.i .i64 x5))) :: (17, (.d (.sl 3 (p0.map cGValue)))) :: (14, (.d (.b (decide (x5 < (p0.length : Int)))))) :: (13, (.d (.i .i64 (p0.length : Int)))) :: (12, (.d (.sl 3 (p0.map cGValue)))) :: (11, (.d (.i .i64 x5))) :: (stsRowFits_L0 p0 p1 x5).env, (stsRowFits_L0 p0 p1 x5).bx⟩) (by kernel_rfl) ?_
        refine nil_in ?_
        refine next_in ?_
        refine ret_in ?_
        refine blockK_ret ?_
        refine thenK_ret ?_
        refine thenK_ret ?_
        refine blockK_ret ?_
        refine thenK_ret ?_
        have h := Option.some.inj h; subst h
        exact ret1_step (v := (.d (.b false))) (by kernel_rfl) (by kernel_rfl) (by kernel_rfl)
      · clear h; intro h
        refine skip_in ?_
        refine blockK_norm ?_
        refine next_in ?_
        refine ops_in ?_
        refine sts_ok 3 (s' := ⟨(5, (.d (.i .i64 (IntKind.wrap .i64 (x5 + 1))))) :: (16, (.d (.i .i64 (IntKind.wrap .i64 (x5 + 1))))) :: (15, (.d (.i .i64 x5))) :: (26, (.d (.b (!y3)))) :: (25, (.d (.b y3))) :: (24, (.d (.i .i64 y2))) :: (23, (.rp [(.i .i64 y2)])) :: (22, (.d (.i .i64 x5))) :: (21, (.d (.sl 1 (p1.map cI)))) :: (20, (vGValue y1)) :: (19, (.rp [(.i .i64 y1.kind), (.i .i64 y1.num), (.s (bs y1.text))])) :: (18, (.d (.i .i64 x5))) :: (17, (.d (.sl 3 (p0.map cGValue)))) :: (14, (.d (.b (decide (x5 < (p0.length : Int)))))) :: (13, (.d (.i .i64 (p0.length : Int)))) :: (12, (.d (.sl 3 (p0.map cGValue)))) :: (11, (.d (.i .i64 x5))) :: (stsRowFits_L0 p0 p1 x5).env, (stsRowFits_L0 p0 p1 x5).bx⟩) (by kernel_rfl) ?_
        refine nil_in ?_
        exact loop_back (s' := stsRowFits_L0 p0 p1 (IntKind.wrap .i64 (x5 + 1))) (wk_ren [] (by kernel_rfl) (er_cons (vr_same (by kernel_rfl) (by kernel_rfl)) (er_cons (vr_same (by kernel_rfl) (by kernel_rfl)) (er_cons (vr_same (by kernel_rfl) (by kernel_rfl)) (er_nil)))) (br_nil)) (OK_sRowFits_L0 (IntKind.wrap .i64 (x5 + 1)) _ h)
    · clear h; intro h
      refine exit_in ?_
      refine thenK_exit ?_
      refine thenK_exit ?_
      refine blockK_here ?_
      refine next_in ?_
      refine seq_in ?_
      refine ops_in ?_
      refine sts_ok 1 (s' := ⟨(4, (.d (.b true))) :: (14, (.d (.b (decide (x5 < (p0.length : Int)))))) :: (13, (.d (.i .i64 (p0.length : Int)))) :: (12, (.d (.sl 3 (p0.map cGValue)))) :: (11, (.d (.i .i64 x5))) :: (stsRowFits_L0 p0 p1 x5).env, (stsRowFits_L0 p0 p1 x5).bx⟩) (by kernel_rfl) ?_
      refine nil_in ?_
      refine next_in ?_
      refine ret_in ?_
      have h := Option.some.inj h; subst h
      exact ret1_step (v := (.d (.b true))) (by kernel_rfl) (by kernel_rfl) (by kernel_rfl)
theorem OK_sRowFits_L0 (p0 : (List GValue)) (p1 : (List Int)) (x5 : Int) (r : Bool) (h : sRowFits_L0 p0 p1 x5 = some r) : avc Try.prog acsRowFits_L0 (qsRowFits_1 r) (stsRowFits_L0 p0 p1 x5) := (OKs_sRowFits_L0 p0 p1) x5 r h
theorem OK_sRowFits (p0 : (List GValue)) (p1 : (List Int)) : FOk Try.prog 83 [(.d (.sl 3 (p0.map cGValue))), (.d (.sl 1 (p1.map cI)))] (fun y => (.d (.b y))) (sRowFits p0 p1) := by
  intro r h
  rw [sRowFits] at h
  refine acalls_of_fn trsRowFits (Nat.le_of_ble_eq_true rfl) (by simp) ?_
  show avc Try.prog acsRowFits (qsRowFits _) ⟨[(0, (.d (.sl 3 (p0.map cGValue)))), (1, (.d (.sl 1 (p1.map cI))))], []⟩
  delta acsRowFits
  refine seq_in ?_
  refine ops_in ?_
  refine sts_ok 1 (s' := ⟨[(4, (.d (.b false))), (0, (.d (.sl 3 (p0.map cGValue)))), (1, (.d (.sl 1 (p1.map cI))))], []⟩) (by kernel_rfl) ?_
  refine nil_in ?_
  refine next_in ?_
  refine seq_in ?_
  refine seq_in ?_
  refine ops_in ?_
  refine sts_ok 1 (s' := ⟨[(6, (.d (.sl 3 (p0.map cGValue)))), (4, (.d (.b false))), (0, (.d (.sl 3 (p0.map cGValue)))), (1, (.d (.sl 1 (p1.map cI))))], []⟩) (by kernel_rfl) ?_
  refine p_step (v' := (.d (.i .i64 (p0.length : Int)))) rfl rfl (vop_len (sz := 3) (l := p0) (f := cGValue) (by kernel_rfl) (by kernel_rfl)) ?_
  refine sts_ok 1 (s' := ⟨[(8, (.d (.sl 1 (p1.map cI)))), (7, (.d (.i .i64 (p0.length : Int)))), (6, (.d (.sl 3 (p0.map cGValue)))), (4, (.d (.b false))), (0, (.d (.sl 3 (p0.map cGValue)))), (1, (.d (.sl 1 (p1.map cI))))], []⟩) (by kernel_rfl) ?_
  refine p_step (v' := (.d (.i .i64 (p1.length : Int)))) rfl rfl (vop_len (sz := 1) (l := p1) (f := cI) (by kernel_rfl) (by kernel_rfl)) ?_
  refine sts_ok 1 (s' := ⟨[(10, (.d (.b (!decide ((p0.length : Int) = (p1.length : Int)))))), (9, (.d (.i .i64 (p1.length : Int)))), (8, (.d (.sl 1 (p1.map cI)))), (7, (.d (.i .i64 (p0.length : Int)))), (6, (.d (.sl 3 (p0.map cGValue)))), (4, (.d (.b false))), (0, (.d (.sl 3 (p0.map cGValue)))), (1, (.d (.sl 1 (p1.map cI))))], []⟩) (by kernel_rfl) ?_
  refine nil_in ?_
  refine next_in ?_
  refine cond_step h (by kernel_rfl) ?_ ?_
  · clear h; intro h
    refine seq_in ?_
    refine ops_in ?_
    refine sts_ok 1 (s' := ⟨[(4, (.d (.b false))), (10, (.d (.b (!decide ((p0.length : Int) = (p1.length : Int)))))), (9, (.d (.i .i64 (p1.length : Int)))), (8, (.d (.sl 1 (p1.map cI)))), (7, (.d (.i .i64 (p0.length : Int)))), (6, (.d (.sl 3 (p0.map cGValue)))), (4, (.d (.b false))), (0, (.d (.sl 3 (p0.map cGValue)))), (1, (.d (.sl 1 (p1.map cI))))], []⟩) (by kernel_rfl) ?_
    refine nil_in ?_
    refine next_in ?_
    refine ret_in ?_
    refine thenK_ret ?_
    have h := Option.some.inj h; subst h
    exact ret1_step (v := (.d (.b false))) (by kernel_rfl) (by kernel_rfl) (by kernel_rfl)
  · clear h; intro h
    refine skip_in ?_
    refine next_in ?_
    refine seq_in ?_
    refine seq_in ?_
    refine ops_in ?_
    refine sts_ok 1 (s' := ⟨[(5, (.d (.i .i64 0))), (10, (.d (.b (!decide ((p0.length : Int) = (p1.length : Int)))))), (9, (.d (.i .i64 (p1.length : Int)))), (8, (.d (.sl 1 (p1.map cI)))), (7, (.d (.i .i64 (p0.length : Int)))), (6, (.d (.sl 3 (p0.map cGValue)))), (4, (.d (.b false))), (0, (.d (.sl 3 (p0.map cGValue)))), (1, (.d (.sl 1 (p1.map cI))))], []⟩) (by kernel_rfl) ?_
    refine nil_in ?_
    refine next_in ?_
    refine block_in ?_
    exact loop_go (s' := stsRowFits_L0 p0 p1 0) (wk_ren [] (by kernel_rfl) (er_cons (vr_same (by kernel_rfl) (by kernel_rfl)) (er_cons (vr_same (by kernel_rfl) (by kernel_rfl)) (er_cons (vr_same (by kernel_rfl) (by kernel_rfl)) (er_nil)))) (br_nil)) (OK_sRowFits_L0 p0 p1 0 _ h)
theorem OKs_sTypesOf_L0 (p0 : GTable) : (∀ (x3 : (List Int)) (x4 : Int) (r : (List Int)), sTypesOf_L0 p0 x3 x4 = some r → avc Try.prog acsTypesOf_L0 (qsTypesOf_1 r) (stsTypesOf_L0 p0 x3 x4)) := by
  refine sTypesOf_L0.partial_correctness p0 (fun x3 x4 r => avc Try.prog acsTypesOf_L0 (qsTypesOf_1 r) (stsTypesOf_L0 p0 x3 x4)) ?_
  · intro F_sTypesOf_L0 OK_sTypesOf_L0 x3 x4 r h
    delta acsTypesOf_L0
    refine loop_unroll ?_
    refine seq_in ?_
    refine seq_in ?_
    refine ops_in ?_
    refine sts_ok 3 (s' := ⟨(8, (.d (.sl 2 (p0.cols.map cGCol)))) :: (7, (.ptr 1 1)) :: (6, (.d (.i .i64 x4))) :: (stsTypesOf_L0 p0 x3 x4).env, (stsTypesOf_L0 p0 x3 x4).bx⟩) (by kernel_rfl) ?_
    refine p_step (v' := (.d (.i .i64 (p0.cols.length : Int)))) rfl rfl (vop_len (sz := 2) (l := p0.cols) (f := cGCol) (by kernel_rfl) (by kernel_rfl)) ?_
    refine sts_ok 1 (s' := ⟨(10, (.d (.b (decide (x4 < (p0.cols.length : Int)))))) :: (9, (.d (.i .i64 (p0.cols.length : Int)))) :: (8, (.d (.sl 2 (p0.cols.map cGCol)))) :: (7, (.ptr 1 1)) :: (6, (.d (.i .i64 x4))) :: (stsTypesOf_L0 p0 x3 x4).env, (stsTypesOf_L0 p0 x3 x4).bx⟩) (by kernel_rfl) ?_
    refine nil_in ?_
    refine next_in ?_
    refine cond_step h (by kernel_rfl) ?_ ?_
    · clear h; intro h
      refine skip_in ?_
      refine next_in ?_
      refine seq_in ?_
      refine block_in ?_
      refine ops_in ?_
      refine sts_ok 4 (s' := ⟨(16, (.d (.i .i64 x4))) :: (15, (.d (.sl 2 (p0.cols.map cGCol)))) :: (14, (.ptr 1 1)) :: (13, (.osl 3 3 1 (x3.map cI))) :: (10, (.d (.b (decide (x4 < (p0.cols.length : Int)))))) :: (9, (.d (.i .i64 (p0.cols.length : Int)))) :: (8, (.d (.sl 2 (p0.cols.map cGCol)))) :: (7, (.ptr 1 1)) :: (6, (.d (.i .i64 x4))) :: (stsTypesOf_L0 p0 x3 x4).env, (stsTypesOf_L0 p0 x3 x4).bx⟩) (by kernel_rfl) ?_
      refine v_step (m := idx p0.cols x4) (v' := fun y => (.rp [(.s (bs y.name)), (.i .i64 y.type)])) h rfl rfl (fun y hy => vop_ia (l := p0.cols) (f := cGCol) (g := cGCol) (k := .i64) hy (fun _ => rfl) (by kernel_rfl) (by kernel_rfl) (by kernel_rfl)) ?_
      clear h; intro y1 h
      refine sts_ok 2 (s' := ⟨(19, (.d (.i .i64 y1.type))) :: (18, (.rp [(.i .i64 y1.type)])) :: (17, (.rp [(.s (bs y1.name)), (.i .i64 y1.type)])) :: (16, (.d (.i .i64 x4))) :: (15, (.d (.sl 2 (p0.cols.map cGCol)))) :: (14, (.ptr 1 1)) :: (13, (.osl 3 3 1 (x3.map cI))) :: (10, (.d (.b (decide (x4 < (p0.cols.length : Int)))))) :: (9, (.d (.i .i64 (p0.cols.length : Int)))) :: (8, (.d (.sl 2 (p0.cols.map cGCol)))) :: (7, (.ptr 1 1)) :: (6, (.d (.i .i64 x4))) :: (stsTypesOf_L0 p0 x3 x4).env, (stsTypesOf_L0 p0 x3 x4).bx⟩) (by kernel_rfl) ?_
      refine bsl_step (l := ([y1.type] : List Int)) (f := cI) (g := cI) (by kernel_rfl) (fun _ => rfl) (by kernel_rfl) ?_
      refine app_step (t := 3) (l := x3) (m := ([y1.type] : List Int)) (f := cI) (S' := fun y => ⟨[(21, (.osl 21 3 1 (y.map cI))), (20, (.osl 20 3 1 (([y1.type] : List Int).map cI))), (19, (.d (.i .i64 y1.type))), (18, (.rp [(.i .i64 y1.type)])), (17, (.rp [(.s (bs y1.name)), (.i .i64 y1.type)])), (16, (.d (.i .i64 x4))), (15, (.d (.sl 2 (p0.cols.map cGCol)))), (14, (.ptr 1 1)), (13, (.d (.sl 1 (x3.map cI)))), (10, (.d (.b (decide (x4 < (p0.cols.length : Int)))))), (9, (.d (.i .i64 (p0.cols.length : Int)))), (8, (.d (.sl 2 (p0.cols.map cGCol)))), (7, (.ptr 1 1)), (6, (.d (.i .i64 x4))), (1, (.ptr 1 0)), (3, (.d (.sl 1 (x3.map cI)))), (4, (.d (.i .i64 x4)))], [(1, [(.d (.s (bs p0.name))), (.d (.sl 2 (p0.cols.map cGCol)))])]⟩) h (by kernel_rfl) (by kernel_rfl) (by kernel_rfl) (by kernel_rfl) (fun y => by kernel_rfl) ?_
      clear h; intro y2 h
      refine sts_ok 1 (s' := ⟨[(3, (.osl 3 3 1 (y2.map cI))), (21, (.d (.sl 1 (y2.map cI)))), (20, (.osl 20 3 1 (([y1.type] : List Int).map cI))), (19, (.d (.i .i64 y1.type))), (18, (.rp [(.i .i64 y1.type)])), (17, (.rp [(.s (bs y1.name)), (.i .i64 y1.type)])), (16, (.d (.i .i64 x4))), (15, (.d (.sl 2 (p0.cols.map cGCol)))), (14, (.ptr 1 1)), (13, (.d (.sl 1 (x3.map cI)))), (10, (.d (.b (decide (x4 < (p0.cols.length : Int)))))), (9, (.d (.i .i64 (p0.cols.length : Int)))), (8, (.d (.sl 2 (p0.cols.map cGCol)))), (7, (.ptr 1 1)), (6, (.d (.i .i64 x4))), (1, (.ptr 1 0)), (3, (.d (.sl 1 (x3.map cI)))), (4, (.d (.i .i64 x4)))], [(1, [(.d (.s (bs p0.name))), (.d (.sl 2 (p0.cols.map cGCol)))])]⟩) (by kernel_rfl) ?_
      refine nil_in ?_
      refine blockK_norm ?_
      refine next_in ?_
      refine ops_in ?_
      refine sts_ok 3 (s' := ⟨[(4, (.d (.i .i64 (IntKind.wrap .i64 (x4 + 1))))), (12, (.d (.i .i64 (IntKind.wrap .i64 (x4 + 1))))), (11, (.d (.i .i64 x4))), (3, (.osl 3 3 1 (y2.map cI))), (21, (.d (.sl 1 (y2.map cI)))), (20, (.osl 20 3 1 (([y1.type] : List Int).map cI))), (19, (.d (.i .i64 y1.type))), (18, (.rp [(.i .i64 y1.type)])), (17, (.rp [(.s (bs y1.name)), (.i .i64 y1.type)])), (16, (.d (.i .i64 x4))), (15, (.d (.sl 2 (p0.cols.map cGCol)))), (14, (.ptr 1 1)), (13, (.d (.sl 1 (x3.map cI)))), (10, (.d (.b (decide (x4 < (p0.cols.length : Int)))))), (9, (.d (.i .i64 (p0.cols.length : Int)))), (8, (.d (.sl 2 (p0.cols.map cGCol)))), (7, (.ptr 1 1)), (6, (.d (.i .i64 x4))), (1, (.ptr 1 0)), (3, (.d (.sl 1 (x3.map cI)))), (4, (.d (.i .i64 x4)))], [(1, [(.d (.s (bs p0.name))), (.d (.sl 2 (p0.cols.map cGCol)))])]⟩) (by kernel_rfl) ?_
      refine nil_in ?_
      exact loop_back (s' := stsTypesOf_L0 p0 y2 (IntKind.wrap .i64 (x4 + 1))) (wk_ren [(3, .old 3)] (by kernel_rfl) (er_cons (vr_same (by kernel_rfl) (by kernel_rfl)) (er_cons (vr_old (t := 3) (by kernel_rfl) (by kernel_rfl)) (er_cons (vr_same (by kernel_rfl) (by kernel_rfl)) (er_nil)))) (br_same (by kernel_rfl) (by kernel_rfl) (br_nil))) (OK_sTypesOf_L0 y2 (IntKind.wrap .i64 (x4 + 1)) _ h)
    · clear h; intro h
      refine exit_in ?_
      refine thenK_exit ?_
      refine thenK_exit ?_
      refine blockK_here ?_
      refine next_in ?_
      refine seq_in ?_
      refine ops_in ?_
      refine sts_ok 2 (s' := ⟨[(2, (.osl 2 3 1 (x3.map cI))), (22, (.d (.sl 1 (x3.map cI)))), (10, (.d (.b (decide (x4 < (p0.cols.length : Int)))))), (9, (.d (.i .i64 (p0.cols.length : Int)))), (8, (.d (.sl 2 (p0.cols.map cGCol)))), (7, (.ptr 1 1)), (6, (.d (.i .i64 x4))), (1, (.ptr 1 0)), (3, (.d (.sl 1 (x3.map cI)))), (4, (.d (.i .i64 x4)))], [(1, [(.d (.s (bs p0.name))), (.d (.sl 2 (p0.cols.map cGCol)))])]⟩) (by kernel_rfl) ?_
      refine nil_in ?_
      refine next_in ?_
      refine ret_wk (s' := ⟨[(2, (.osl 2000000 3 1 (x3.map cI)))], []⟩) (wk_ren [(2000000, .old 2)] (by kernel_rfl) (er_cons (vr_old (t := 2) (by kernel_rfl) (by kernel_rfl)) (er_nil)) (br_nil)) ?_
      have h := Option.some.inj h; subst h
      exact ret1_step (v := (.osl 2000000 3 1 (x3.map cI))) (by kernel_rfl) (by kernel_rfl) ⟨by kernel_rfl, trivial⟩
theorem OK_sTypesOf_L0 (p0 : GTable) (x3 : (List Int)) (x4 : Int) (r : (List Int)) (h : sTypesOf_L0 p0 x3 x4 = some r) : avc Try.prog acsTypesOf_L0 (qsTypesOf_1 r) (stsTypesOf_L0 p0 x3 x4) := (OKs_sTypesOf_L0 p0) x3 x4 r h
theorem OK_sTypesOf (p0 : GTable) : FOkB Try.prog 84 [(vGTable p0)] [] (fun (y : (List Int)) => (.osl 2000000 3 1 (y.map cI))) (fun (y : (List Int)) => []) (sTypesOf p0) := by
  intro r h
  rw [sTypesOf] at h
  refine acalls_of_fn trsTypesOf (Nat.le_of_ble_eq_true rfl) (by simp) ?_
  show avc Try.prog acsTypesOf (qsTypesOf _) ⟨[(0, (vGTable p0))], []⟩
  delta acsTypesOf
  refine seq_in ?_
  refine ops_in ?_
  refine sts_ok 2 (s' := ⟨[(2, (.nil 1)), (1, (.ptr 1 0)), (0, (vGTable p0))], [(1, [(.d (.s (bs p0.name))), (.d (.sl 2 (p0.cols.map cGCol)))])]⟩) (by kernel_rfl) ?_
  refine nil_in ?_
  refine next_in ?_
  refine seq_in ?_
  refine ops_in ?_
  refine bsl_step (l := ([] : List Int)) (f := cI) (g := cI) (by kernel_rfl) (fun _ => rfl) (by kernel_rfl) ?_
  refine sts_ok 1 (s' := ⟨[(3, (.osl 3 3 1 (([] : List Int).map cI))), (5, (.d (.sl 1 (([] : List Int).map cI)))), (2, (.nil 1)), (1, (.ptr 1 0)), (0, (vGTable p0))], [(1, [(.d (.s (bs p0.name))), (.d (.sl 2 (p0.cols.map cGCol)))])]⟩) (by kernel_rfl) ?_
  refine nil_in ?_
  refine next_in ?_
  refine seq_in ?_
  refine seq_in ?_
  refine ops_in ?_
  refine sts_ok 1 (s' := ⟨[(4, (.d (.i .i64 0))), (3, (.osl 3 3 1 (([] : List Int).map cI))), (5, (.d (.sl 1 (([] : List Int).map cI)))), (2, (.nil 1)), (1, (.ptr 1 0)), (0, (vGTable p0))], [(1, [(.d (.s (bs p0.name))), (.d (.sl 2 (p0.cols.map cGCol)))])]⟩) (by kernel_rfl) ?_
  refine nil_in ?_
  refine next_in ?_
  refine block_in ?_
  exact loop_go (s' := stsTypesOf_L0 p0 ([] : List Int) 0) (wk_ren [(3, .old 3)] (by kernel_rfl) (er_cons (vr_same (by kernel_rfl) (by kernel_rfl)) (er_cons (vr_old (t := 3) (by kernel_rfl) (by kernel_rfl)) (er_cons (vr_same (by kernel_rfl) (by kernel_rfl)) (er_nil)))) (br_same (by kernel_rfl) (by kernel_rfl) (br_nil))) (OK_sTypesOf_L0 p0 ([] : List Int) 0 _ h)
theorem OKs_sDbOk_L1 (p0 : GCatalog) (p1 : GDb) : (∀ (x5 : Int) (x6 : Int) (r : Bool), sDbOk_L1 x5 p0 p1 x6 = some r → avc Try.prog acsDbOk_L1 (qsDbOk_5 r) (stsDbOk_L1 x5 p0 p1 x6)) ∧ (∀ (x5 : Int) (r : Bool), sDbOk_L0 p0 p1 x5 = some r → avc Try.prog acsDbOk_L0 (qsDbOk_1 r) (stsDbOk_L0 p0 p1 x5)) := by
  refine sDbOk_L1.mutual_partial_correctness p0 p1 (fun x5 x6 r => avc Try.prog acsDbOk_L1 (qsDbOk_5 r) (stsDbOk_L1 x5 p0 p1 x6)) (fun x5 r => avc Try.prog acsDbOk_L0 (qsDbOk_1 r) (stsDbOk_L0 p0 p1 x5)) ?_ ?_
  · intro F_sDbOk_L1 F_sDbOk_L0 OK_sDbOk_L1 OK_sDbOk_L0 x5 x6 r h
    delta acsDbOk_L1
    refine loop_unroll ?_
    refine seq_in ?_
    refine seq_in ?_
    refine ops_in ?_
    refine sts_ok 4 (s' := ⟨(37, (.d (.i .i64 x5))) :: (36, (.d (.sl 1 (p1.tables.map cGData)))) :: (35, (.ptr 3 0)) :: (34, (.d (.i .i64 x6))) :: (stsDbOk_L1 x5 p0 p1 x6).env, (stsDbOk_L1 x5 p0 p1 x6).bx⟩) (by kernel_rfl) ?_
    refine v_step (m := idx p1.tables x5) (v' := fun y => (.rp [(.sl 1 (y.rows.map (cSl 3 cGValue)))])) h rfl rfl (fun y hy => vop_ia (l := p1.tables) (f := cGData) (g := cGData) (k := .i64) hy (fun _ => rfl) (by kernel_rfl) (by kernel_rfl) (by kernel_rfl)) ?_
    clear h; intro y3 h
    refine sts_ok 2 (s' := ⟨(40, (.d (.sl 1 (y3.rows.map (cSl 3 cGValue))))) :: (39, (.rp [(.sl 1 (y3.rows.map (cSl 3 cGValue)))])) :: (38, (.rp [(.sl 1 (y3.rows.map (cSl 3 cGValue)))])) :: (37, (.d (.i .i64 x5))) :: (36, (.d (.sl 1 (p1.tables.map cGData)))) :: (35, (.ptr 3 0)) :: (34, (.d (.i .i64 x6))) :: (stsDbOk_L1 x5 p0 p1 x6).env, (stsDbOk_L1 x5 p0 p1 x6).bx⟩) (by kernel_rfl) ?_
    refine p_step (v' := (.d (.i .i64 (y3.rows.length : Int)))) rfl rfl (vop_len (sz := 1) (l := y3.rows) (f := (cSl 3 cGValue)) (by kernel_rfl) (by kernel_rfl)) ?_
    refine sts_ok 1 (s' := ⟨(42, (.d (.b (decide (x6 < (y3.rows.length : Int)))))) :: (41, (.d (.i .i64 (y3.rows.length : Int)))) :: (40, (.d (.sl 1 (y3.rows.map (cSl 3 cGValue))))) :: (39, (.rp [(.sl 1 (y3.rows.map (cSl 3 cGValue)))])) :: (38, (.rp [(.sl 1 (y3.rows.map (cSl 3 cGValue)))])) :: (37, (.d (.i .i64 x5))) :: (36, (.d (.sl 1 (p1.tables.map cGData)))) :: (35, (.ptr 3 0)) :: (34, (.d (.i .i64 x6))) :: (stsDbOk_L1 x5 p0 p1 x6).env, (stsDbOk_L1 x5 p0 p1 x6).bx⟩) (by kernel_rfl) ?_
    refine nil_in ?_
    refine next_in ?_
    refine cond_step h (by kernel_rfl) ?_ ?_
    · clear h; intro h
      refine skip_in ?_
      refine next_in ?_
      refine seq_in ?_
      refine block_in ?_
      refine seq_in ?_
      refine dops_in ?_
      refine dsts_ok 3 (s' := ⟨(47, (.d (.i .i64 x5))) :: (46, (.d (.sl 1 (p1.tables.map cGData)))) :: (45, (.ptr 3 0)) :: (42, (.d (.b (decide (x6 < (y3.rows.length : Int)))))) :: (41, (.d (.i .i64 (y3.rows.length : Int)))) :: (40, (.d (.sl 1 (y3.rows.map (cSl 3 cGValue))))) :: (39, (.rp [(.sl 1 (y3.rows.map (cSl 3 cGValue)))])) :: (38, (.rp [(.sl 1 (y3.rows.map (cSl 3 cGValue)))])) :: (37, (.d (.i .i64 x5))) :: (36, (.d (.sl 1 (p1.tables.map cGData)))) :: (35, (.ptr 3 0)) :: (34, (.d (.i .i64 x6))) :: (stsDbOk_L1 x5 p0 p1 x6).env, (stsDbOk_L1 x5 p0 p1 x6).bx⟩) (by kernel_rfl) ?_
      refine dv_step (m := idx p1.tables x5) (v' := fun y => (.rp [(.sl 1 (y.rows.map (cSl 3 cGValue)))])) h rfl rfl (fun y hy => vop_ia (l := p1.tables) (f := cGData) (g := cGData) (k := .i64) hy (fun _ => rfl) (by kernel_rfl) (by kernel_rfl) (by kernel_rfl)) ?_
      clear h; intro y4 h
      refine dsts_ok 3 (s' := ⟨(51, (.d (.i .i64 x6))) :: (50, (.d (.sl 1 (y4.rows.map (cSl 3 cGValue))))) :: (49, (.rp [(.sl 1 (y4.rows.map (cSl 3 cGValue)))])) :: (48, (.rp [(.sl 1 (y4.rows.map (cSl 3 cGValue)))])) :: (47, (.d (.i .i64 x5))) :: (46, (.d (.sl 1 (p1.tables.map cGData)))) :: (45, (.ptr 3 0)) :: (42, (.d (.b (decide (x6 < (y3.rows.length : Int)))))) :: (41, (.d (.i .i64 (y3.rows.length : Int)))) :: (40, (.d (.sl 1 (y3.rows.map (cSl 3 cGValue))))) :: (39, (.rp [(.sl 1 (y3.rows.map (cSl 3 cGValue)))])) :: (38, (.rp [(.sl 1 (y3.rows.map (cSl 3 cGValue)))])) :: (37, (.d (.i .i64 x5))) :: (36, (.d (.sl 1 (p1.tables.map cGData)))) :: (35, (.ptr 3 0)) :: (34, (.d (.i .i64 x6))) :: (stsDbOk_L1 x5 p0 p1 x6).env, (stsDbOk_L1 x5 p0 p1 x6).bx⟩) (by kernel_rfl) ?_
      refine dv_step (m := idx y4.rows x6) (v' := fun y => (.rp [(.sl 3 (y.map cGValue))])) h rfl rfl (fun y hy => vop_ia (l := y4.rows) (f := (cSl 3 cGValue)) (g := (cSl 3 cGValue)) (k := .i64) hy (fun _ => rfl) (by kernel_rfl) (by kernel_rfl) (by kernel_rfl)) ?_
      clear h; intro y5 h
      refine dsts_ok 4 (s' := ⟨(56, (.d (.i .i64 x5))) :: (55, (.d (.sl 2 (p0.tables.map cGTable)))) :: (54, (.ptr 2 0)) :: (53, (.d (.sl 3 (y5.map cGValue)))) :: (52, (.rp [(.sl 3 (y5.map cGValue))])) :: (51, (.d (.i .i64 x6))) :: (50, (.d (.sl 1 (y4.rows.map (cSl 3 cGValue))))) :: (49, (.rp [(.sl 1 (y4.rows.map (cSl 3 cGValue)))])) :: (48, (.rp [(.sl 1 (y4.rows.map (cSl 3 cGValue)))])) :: (47, (.d (.i .i64 x5))) :: (46, (.d (.sl 1 (p1.tables.map cGData)))) :: (45, (.ptr 3 0)) :: (42, (.d (.b (decide (x6 < (y3.rows.length : Int)))))) :: (41, (.d (.i .i64 (y3.rows.length : Int)))) :: (40, (.d (.sl 1 (y3.rows.map (cSl 3 cGValue))))) :: (39, (.rp [(.sl 1 (y3.rows.map (cSl 3 cGValue)))])) :: (38, (.rp [(.sl 1 (y3.rows.map (cSl 3 cGValue)))])) :: (37, (.d (.i .i64 x5))) :: (36, (.d (.sl 1 (p1.tables.map cGData)))) :: (35, (.ptr 3 0)) :: (34, (.d (.i .i64 x6))) :: (stsDbOk_L1 x5 p0 p1 x6).env, (stsDbOk_L1 x5 p0 p1 x6).bx⟩) (by kernel_rfl) ?_
      refine dv_step (m := idx p0.tables x5) (v' := fun y => (.rp [(.s (bs y.name)), (.sl 2 (y.cols.map cGCol))])) h rfl rfl (fun y hy => vop_ia (l := p0.tables) (f := cGTable) (g := cGTable) (k := .i64) hy (fun _ => rfl) (by kernel_rfl) (by kernel_rfl) (by kernel_rfl)) ?_
      clear h; intro y6 h
      refine dsts_ok 1 (s' := ⟨(58, (vGTable y6)) :: (57, (.rp [(.s (bs y6.name)), (.sl 2 (y6.cols.map cGCol))])) :: (56, (.d (.i .i64 x5))) :: (55, (.d (.sl 2 (p0.tables.map cGTable)))) :: (54, (.ptr 2 0)) :: (53, (.d (.sl 3 (y5.map cGValue)))) :: (52, (.rp [(.sl 3 (y5.map cGValue))])) :: (51, (.d (.i .i64 x6))) :: (50, (.d (.sl 1 (y4.rows.map (cSl 3 cGValue))))) :: (49, (.rp [(.sl 1 (y4.rows.map (cSl 3 cGValue)))])) :: (48, (.rp [(.sl 1 (y4.rows.map (cSl 3 cGValue)))])) :: (47, (.d (.i .i64 x5))) :: (46, (.d (.sl 1 (p1.tables.map cGData)))) :: (45, (.ptr 3 0)) :: (42, (.d (.b (decide (x6 < (y3.rows.length : Int)))))) :: (41, (.d (.i .i64 (y3.rows.length : Int)))) :: (40, (.d (.sl 1 (y3.rows.map (cSl 3 cGValue))))) :: (39, (.rp [(.sl 1 (y3.rows.map (cSl 3 cGValue)))])) :: (38, (.rp [(.sl 1 (y3.rows.map (cSl 3 cGValue)))])) :: (37, (.d (.i .i64 x5))) :: (36, (.d (.sl 1 (p1.tables.map cGData)))) :: (35, (.ptr 3 0)) :: (34, (.d (.i .i64 x6))) :: (stsDbOk_L1 x5 p0 p1 x6).env, (stsDbOk_L1 x5 p0 p1 x6).bx⟩) (by kernel_rfl) ?_
      refine dcallg_step ⟨[], [], [], [], [], [(2000000, 59)], [], [59]⟩ [] [] (m := sTypesOf y6) (S' := fun (y : (List Int)) => ⟨(59, (.osl 59 3 1 (y.map cI))) :: (58, (vGTable y6)) :: (57, (.rp [(.s (bs y6.name)), (.sl 2 (y6.cols.map cGCol))])) :: (56, (.d (.i .i64 x5))) :: (55, (.d (.sl 2 (p0.tables.map cGTable)))) :: (54, (.ptr 2 0)) :: (53, (.d (.sl 3 (y5.map cGValue)))) :: (52, (.rp [(.sl 3 (y5.map cGValue))])) :: (51, (.d (.i .i64 x6))) :: (50, (.d (.sl 1 (y4.rows.map (cSl 3 cGValue))))) :: (49, (.rp [(.sl 1 (y4.rows.map (cSl 3 cGValue)))])) :: (48, (.rp [(.sl 1 (y4.rows.map (cSl 3 cGValue)))])) :: (47, (.d (.i .i64 x5))) :: (46, (.d (.sl 1 (p1.tables.map cGData)))) :: (45, (.ptr 3 0)) :: (42, (.d (.b (decide (x6 < (y3.rows.length : Int)))))) :: (41, (.d (.i .i64 (y3.rows.length : Int)))) :: (40, (.d (.sl 1 (y3.rows.map (cSl 3 cGValue))))) :: (39, (.rp [(.sl 1 (y3.rows.map (cSl 3 cGValue)))])) :: (38, (.rp [(.sl 1 (y3.rows.map (cSl 3 cGValue)))])) :: (37, (.d (.i .i64 x5))) :: (36, (.d (.sl 1 (p1.tables.map cGData)))) :: (35, (.ptr 3 0)) :: (34, (.d (.i .i64 x6))) :: (stsDbOk_L1 x5 p0 p1 x6).env, (stsDbOk_L1 x5 p0 p1 x6).bx⟩) h (OK_sTypesOf y6) (by kernel_rfl) (by kernel_rfl) (by kernel_rfl) (by kernel_rfl) (by kernel_rfl) (fun y => by kernel_rfl) (fun y => by kernel_rfl) ?_
      clear h; intro y7 h
      refine dcall_step (m := sRowFits y5 y7) (args := [(.d (.sl 3 (y5.map cGValue))), (.d (.sl 1 (y7.map cI)))]) (v' := (fun y => (.d (.b y)))) h (OK_sRowFits y5 y7) (by kernel_rfl) (by kernel_rfl) (fun _ => rfl) ?_
      clear h; intro y8 h
      refine dsts_ok 1 (s' := ⟨(61, (.d (.b (!y8)))) :: (60, (.d (.b y8))) :: (59, (.osl 59 3 1 (y7.map cI))) :: (58, (vGTable y6)) :: (57, (.rp [(.s (bs y6.name)), (.sl 2 (y6.cols.map cGCol))])) :: (56, (.d (.i .i64 x5))) :: (55, (.d (.sl 2 (p0.tables.map cGTable)))) :: (54, (.ptr 2 0)) :: (53, (.d (.sl 3 (y5.map cGValue)))) :: (52, (.rp [(.sl 3 (y5.map cGValue))])) :: (51, (.d (.i .i64 x6))) :: (50, (.d (.sl 1 (y4.rows.map (cSl 3 cGValue))))) :: (49, (.rp [(.sl 1 (y4.rows.map (cSl 3 cGValue)))])) :: (48, (.rp [(.sl 1 (y4.rows.map (cSl 3 cGValue)))])) :: (47, (.d (.i .i64 x5))) :: (46, (.d (.sl 1 (p1.tables.map cGData)))) :: (45, (.ptr 3 0)) :: (42, (.d (.b (decide (x6 < (y3.rows.length : Int)))))) :: (41, (.d (.i .i64 (y3.rows.length : Int)))) :: (40, (.d (.sl 1 (y3.rows.map (cSl 3 cGValue))))) :: (39, (.rp [(.sl 1 (y3.rows.map (cSl 3 cGValue)))])) :: (38, (.rp [(.sl 1 (y3.rows.map (cSl 3 cGValue)))])) :: (37, (.d (.i .i64 x5))) :: (36, (.d (.sl 1 (p1.tables.map cGData)))) :: (35, (.ptr 3 0)) :: (34, (.d (.i .i64 x6))) :: (stsDbOk_L1 x5 p0 p1 x6).env, (stsDbOk_L1 x5 p0 p1 x6).bx⟩) (by kernel_rfl) ?_
      refine dnil_in (by kernel_rfl) (by kernel_rfl) ?_
      refine next_in ?_
      refine cond_step h (by kernel_rfl) ?_ ?_
      · clear h; intro h
        refine seq_in ?_
        refine ops_in ?_
        refine sts_ok 1 (s' := ⟨(4, (.d (.b false))) :: (61, (.d (.b (!y8)))) :: (60, (.d (.b y8))) :: (59, (.osl 59 3 1 (y7.map cI))) :: (58, (vGTable y6)) :: (57, (.rp [(.s (bs y6.name)), (.sl 2 (y6.cols.map cGCol))])) :: (56, (.d (.i .i64 x5))) :: (55, (.d (.sl 2 (p0.tables.map cGTable)))) :: (54, (.ptr 2 0)) :: (53, (.d (.sl 3 (y5.map cGValue)))) :: (52, (.rp [(.sl 3 (y5.map cGValue))])) :: (51, (.d (.i .i64 x6))) :: (50, (.d (.sl 1 (y4.rows.map (cSl 3 cGValue))))) :: (49, (.rp [(.sl 1 (y4.rows.map (cSl 3 cGValue)))])) :: (48, (.rp [(.sl 1 (y4.rows.map (cSl 3 cGValue)))])) :: (47, (.d (.i .i64 x5))) :: (46, (.d (.sl 1 (p1.tables.map cGData)))) :: (45, (.ptr 3 0)) :: (42, (.d (.b (decide (x6 < (y3.rows.length : Int)))))) :: (41, (.d (.i .i64 (y3.rows.length : Int)))) :: (40, (.d (.sl 1 (y3.rows.map (cSl 3 cGValue))))) :: (39, (.rp [(.sl 1 (y3.rows.map (cSl 3 cGValue)))])) :: (38, (.rp [(.sl 1 (y3.rows.map (cSl 3 cGValue)))])) :: (37, (.d (.i .i64 x5))) :: (36, (.d (.sl 1 (p1.tables.map cGData)))) :: (35, (.ptr 3 0)) :: (34, (.d (.i .i64 x6))) :: (stsDbOk_L1 x5 p0 p1 x6).env, (stsDbOk_L1 x5 p0 p1 x6).bx⟩) (by kernel_rfl) ?_
        refine nil_in ?_
        refine next_in ?_
        refine ret_in ?_
        refine blockK_ret ?_
        refine thenK_ret ?_
        refine thenK_ret ?_
        refine blockK_ret ?_
        refine blockK_ret ?_
        refine thenK_ret ?_
        refine thenK_ret ?_
        refine blockK_ret ?_
        refine thenK_ret ?_
        have h := Option.some.inj h; subst h
        exact ret1_step (v := (.d (.b false))) (by kernel_rfl) (by kernel_rfl) (by kernel_rfl)
      · clear h; intro h
        refine skip_in ?_
        refine blockK_norm ?_
        refine next_in ?_
        refine ops_in ?_
        refine sts_ok 3 (s' := ⟨(6, (.d (.i .i64 (IntKind.wrap .i64 (x6 + 1))))) :: (44, (.d (.i .i64 (IntKind.wrap .i64 (x6 + 1))))) :: (43, (.d (.i .i64 x6))) :: (61, (.d (.b (!y8)))) :: (60, (.d (.b y8))) :: (59, (.osl 59 3 1 (y7.map cI))) :: (58, (vGTable y6)) :: (57, (.rp [(.s (bs y6.name)), (.sl 2 (y6.cols.map cGCol))])) :: (56, (.d (.i .i64 x5))) :: (55, (.d (.sl 2 (p0.tables.map cGTable)))) :: (54, (.ptr 2 0)) :: (53, (.d (.sl 3 (y5.map cGValue)))) :: (52, (.rp [(.sl 3 (y5.map cGValue))])) :: (51, (.d (.i .i64 x6))) :: (50, (.d (.sl 1 (y4.rows.map (cSl 3 cGValue))))) :: (49, (.rp [(.sl 1 (y4.rows.map (cSl 3 cGValue)))])) :: (48, (.rp [(.sl 1 (y4.rows.map (cSl 3 cGValue)))])) :: (47, (.d (.i .i64 x5))) :: (46, (.d (.sl 1 (p1.tables.map cGData)))) :: (45, (.ptr 3 0)) :: (42, (.d (.b (decide (x6 < (y3.rows.length : Int)))))) :: (41, (.d (.i .i64 (y3.rows.length : Int)))) :: (40, (.d (.sl 1 (y3.rows.map (cSl 3 cGValue))))) :: (39, (.rp [(.sl 1 (y3.rows.map (cSl 3 cGValue)))])) :: (38, (.rp [(.sl 1 (y3.rows.map (cSl 3 cGValue)))])) :: (37, (.d (.i .i64 x5))) :: (36, (.d (.sl 1 (p1.tables.map cGData)))) :: (35, (.ptr 3 0)) :: (34, (.d (.i .i64 x6))) :: (stsDbOk_L1 x5 p0 p1 x6).env, (stsDbOk_L1 x5 p0 p1 x6).bx⟩) (by kernel_rfl) ?_
        refine nil_in ?_
        exact loop_back (s' := stsDbOk_L1 x5 p0 p1 (IntKind.wrap .i64 (x6 + 1))) (wk_ren [] (by kernel_rfl) (er_cons (vr_same (by kernel_rfl) (by kernel_rfl)) (er_cons (vr_same (by kernel_rfl) (by kernel_rfl)) (er_cons (vr_same (by kernel_rfl) (by kernel_rfl)) (er_cons (vr_same (by kernel_rfl) (by kernel_rfl)) (er_nil))))) (br_same (by kernel_rfl) (by kernel_rfl) (br_same (by kernel_rfl) (by kernel_rfl) (br_nil)))) (OK_sDbOk_L1 x5 (IntKind.wrap .i64 (x6 + 1)) _ h)
    · clear h; intro h
      refine exit_in ?_
      refine thenK_exit ?_
      refine thenK_exit ?_
      refine blockK_here ?_
      refine blockK_norm ?_
      refine next_in ?_
      refine ops_in ?_
      refine sts_ok 3 (s' := ⟨(5, (.d (.i .i64 (IntKind.wrap .i64 (x5 + 1))))) :: (25, (.d (.i .i64 (IntKind.wrap .i64 (x5 + 1))))) :: (24, (.d (.i .i64 x5))) :: (42, (.d (.b (decide (x6 < (y3.rows.length : Int)))))) :: (41, (.d (.i .i64 (y3.rows.length : Int)))) :: (40, (.d (.sl 1 (y3.rows.map (cSl 3 cGValue))))) :: (39, (.rp [(.sl 1 (y3.rows.map (cSl 3 cGValue)))])) :: (38, (.rp [(.sl 1 (y3.rows.map (cSl 3 cGValue)))])) :: (37, (.d (.i .i64 x5))) :: (36, (.d (.sl 1 (p1.tables.map cGData)))) :: (35, (.ptr 3 0)) :: (34, (.d (.i .i64 x6))) :: (stsDbOk_L1 x5 p0 p1 x6).env, (stsDbOk_L1 x5 p0 p1 x6).bx⟩) (by kernel_rfl) ?_
      refine nil_in ?_
      exact loop_back (s' := stsDbOk_L0 p0 p1 (IntKind.wrap .i64 (x5 + 1))) (wk_ren [] (by kernel_rfl) (er_cons (vr_same (by kernel_rfl) (by kernel_rfl)) (er_cons (vr_same (by kernel_rfl) (by kernel_rfl)) (er_cons (vr_same (by kernel_rfl) (by kernel_rfl)) (er_nil)))) (br_same (by kernel_rfl) (by kernel_rfl) (br_same (by kernel_rfl) (by kernel_rfl) (br_nil)))) (OK_sDbOk_L0 (IntKind.wrap .i64 (x5 + 1)) _ h)
  · intro F_sDbOk_L1 OK_sDbOk_L1 x5 r h
    delta acsDbOk_L0
    refine loop_unroll ?_
    refine seq_in ?_
    refine seq_in ?_
    refine ops_in ?_
    refine sts_ok 3 (s' := ⟨(21, (.d (.sl 1 (p1.tables.map cGData)))) :: (20, (.ptr 3 0)) :: (19, (.d (.i .i64 x5))) :: (stsDbOk_L0 p0 p1 x5).env, (stsDbOk_L0 p0 p1 x5).bx⟩) (by kernel_rfl) ?_
    refine p_step (v' := (.d (.i .i64 (p1.tables.length : Int)))) rfl rfl (vop_len (sz := 1) (l := p1.tables) (f := cGData) (by kernel_rfl) (by kernel_rfl)) ?_
    refine sts_ok 1 (s' := ⟨(23, (.d (.b (decide (x5 < (p1.tables.length : Int)))))) :: (22, (.d (.i .i64 (p1.tables.length : Int)))) :: (21, (.d (.sl 1 (p1.tables.map cGData)))) :: (20, (.ptr 3 0)) :: (19, (.d (.i .i64 x5))) :: (stsDbOk_L0 p0 p1 x5).env, (stsDbOk_L0 p0 p1 x5).bx⟩) (by kernel_rfl) ?_
    refine nil_in ?_
    refine next_in ?_
    refine cond_step h (by kernel_rfl) ?_ ?_
    · clear h; intro h
      refine skip_in ?_
      refine next_in ?_
      refine seq_in ?_
      refine block_in ?_
      refine seq_in ?_
      refine seq_in ?_
      refine ops_in ?_
      refine sts_ok 3 (s' := ⟨(28, (.d (.i .i64 x5))) :: (27, (.d (.sl 1 (p1.tables.map cGData)))) :: (26, (.ptr 3 0)) :: (23, (.d (.b (decide (x5 < (p1.tables.length : Int)))))) :: (22, (.d (.i .i64 (p1.tables.length : Int)))) :: (21, (.d (.sl 1 (p1.tables.map cGData)))) :: (20, (.ptr 3 0)) :: (19, (.d (.i .i64 x5))) :: (stsDbOk_L0 p0 p1 x5).env, (stsDbOk_L0 p0 p1 x5).bx⟩) (by kernel_rfl) ?_
      refine v_step (m := idx p1.tables x5) (v' := fun y => (.rp [(.sl 1 (y.rows.map (cSl 3 cGValue)))])) h rfl rfl (fun y hy => vop_ia (l := p1.tables) (f := cGData) (g := cGData) (k := .i64) hy (fun _ => rfl) (by kernel_rfl) (by kernel_rfl) (by kernel_rfl)) ?_
      clear h; intro y2 h
      refine sts_ok 2 (s' := ⟨(31, (.d (.sl 1 (y2.rows.map (cSl 3 cGValue))))) :: (30, (.rp [(.sl 1 (y2.rows.map (cSl 3 cGValue)))])) :: (29, (.rp [(.sl 1 (y2.rows.map (cSl 3 cGValue)))])) :: (28, (.d (.i .i64 x5))) :: (27, (.d (.sl 1 (p1.tables.map cGData)))) :: (26, (.ptr 3 0)) :: (23, (.d (.b (decide (x5 < (p1.tables.length : Int)))))) :: (22, (.d (.i .i64 (p1.tables.length : Int)))) :: (21, (.d (.sl 1 (p1.tables.map cGData)))) :: (20, (.ptr 3 0)) :: (19, (.d (.i .i64 x5))) :: (stsDbOk_L0 p0 p1 x5).env, (stsDbOk_L0 p0 p1 x5).bx⟩) (by kernel_rfl) ?_
      refine p_step (v' := (.d (.i .i64 (y2.rows.length : Int)))) rfl rfl (vop_len (sz := 1) (l := y2.rows) (f := (cSl 3 cGValue)) (by kernel_rfl) (by kernel_rfl)) ?_
      refine sts_ok 1 (s' := ⟨(33, (.d (.b (decide (6 < (y2.rows.length : Int)))))) :: (32, (.d (.i .i64 (y2.rows.length : Int)))) :: (31, (.d (.sl 1 (y2.rows.map (cSl 3 cGValue))))) :: (30, (.rp [(.sl 1 (y2.rows.map (cSl 3 cGValue)))])) :: (29, (.rp [(.sl 1 (y2.rows.map (cSl 3 cGValue)))])) :: (28, (.d (.i .i64 x5))) :: (27, (.d (.sl 1 (p1.tables.map cGData)))) :: (26, (.ptr 3 0)) :: (23, (.d (.b (decide (x5 < (p1.tables.length : Int)))))) :: (22, (.d (.i .i64 (p1.tables.length : Int)))) :: (21, (.d (.sl 1 (p1.tables.map cGData)))) :: (20, (.ptr 3 0)) :: (19, (.d (.i .i64 x5))) :: (stsDbOk_L0 p0 p1 x5).env, (stsDbOk_L0 p0 p1 x5).bx⟩) (by kernel_rfl) ?_
      refine nil_in ?_
      refine next_in ?_
      refine cond_step h (by kernel_rfl) ?_ ?_
      · clear h; intro h
        refine seq_in ?_
        refine ops_in ?_
        refine sts_ok 1 (s' := ⟨(4, (.d (.b false))) :: (33, (.d (.b (decide (6 < (y2.rows.length : Int)))))) :: (32, (.d (.i .i64 (y2.rows.length : Int)))) :: (31, (.d (.sl 1 (y2.rows.map (cSl 3 cGValue))))) :: (30, (.rp [(.sl 1 (y2.rows.map (cSl 3 cGValue)))])) :: (29, (.rp [(.sl 1 (y2.rows.map (cSl 3 cGValue)))])) :: (28, (.d (.i .i64 x5))) :: (27, (.d (.sl 1 (p1.tables.map cGData)))) :: (26, (.ptr 3 0)) :: (23, (.d (.b (decide (x5 < (p1.tables.length : Int)))))) :: (22, (.d (.i .i64 (p1.tables.length : Int)))) :: (21, (.d (.sl 1 (p1.tables.map cGData)))) :: (20, (.ptr 3 0)) :: (19, (.d (.i .i64 x5))) :: (stsDbOk_L0 p0 p1 x5).env, (stsDbOk_L0 p0 p1 x5).bx⟩) (by kernel_rfl) ?_
        refine nil_in ?_
        refine next_in ?_
        refine ret_in ?_
        refine thenK_ret ?_
        refine blockK_ret ?_
        refine thenK_ret ?_
        refine thenK_ret ?_
        refine blockK_ret ?_
        refine thenK_ret ?_
        have h := Option.some.inj h; subst h
        exact ret1_step (v := (.d (.b false))) (by kernel_rfl) (by kernel_rfl) (by kernel_rfl)
      · clear h; intro h
        refine skip_in ?_
        refine next_in ?_
        refine seq_in ?_
        refine ops_in ?_
        refine sts_ok 1 (s' := ⟨(6, (.d (.i .i64 0))) :: (33, (.d (.b (decide (6 < (y2.rows.length : Int)))))) :: (32, (.d (.i .i64 (y2.rows.length : Int)))) :: (31, (.d (.sl 1 (y2.rows.map (cSl 3 cGValue))))) :: (30, (.rp [(.sl 1 (y2.rows.map (cSl 3 cGValue)))])) :: (29, (.rp [(.sl 1 (y2.rows.map (cSl 3 cGValue)))])) :: (28, (.d (.i .i64 x5))) :: (27, (.d (.sl 1 (p1.tables.map cGData)))) :: (26, (.ptr 3 0)) :: (23, (.d (.b (decide (x5 < (p1.tables.length : Int)))))) :: (22, (.d (.i .i64 (p1.tables.length : Int)))) :: (21, (.d (.sl 1 (p1.tables.map cGData)))) :: (20, (.ptr 3 0)) :: (19, (.d (.i .i64 x5))) :: (stsDbOk_L0 p0 p1 x5).env, (stsDbOk_L0 p0 p1 x5).bx⟩) (by kernel_rfl) ?_
        refine nil_in ?_
        refine next_in ?_
        refine block_in ?_
        exact loop_go (s' := stsDbOk_L1 x5 p0 p1 0) (wk_ren [] (by kernel_rfl) (er_cons (vr_same (by kernel_rfl) (by kernel_rfl)) (er_cons (vr_same (by kernel_rfl) (by kernel_rfl)) (er_cons (vr_same (by kernel_rfl) (by kernel_rfl)) (er_cons (vr_same (by kernel_rfl) (by kernel_rfl)) (er_nil))))) (br_same (by kernel_rfl) (by kernel_rfl) (br_same (by kernel_rfl) (by kernel_rfl) (br_nil)))) (OK_sDbOk_L1 x5 0 _ h)
    · clear h; intro h
      refine exit_in ?_
      refine thenK_exit ?_
      refine thenK_exit ?_
      refine blockK_here ?_
      refine next_in ?_
      refine seq_in ?_
      refine ops_in ?_
      refine sts_ok 1 (s' := ⟨(4, (.d (.b true))) :: (23, (.d (.b (decide (x5 < (p1.tables.length : Int)))))) :: (22, (.d (.i .i64 (p1.tables.length : Int)))) :: (21, (.d (.sl 1 (p1.tables.map cGData)))) :: (20, (.ptr 3 0)) :: (19, (.d (.i .i64 x5))) :: (stsDbOk_L0 p0 p1 x5).env, (stsDbOk_L0 p0 p1 x5).bx⟩) (by kernel_rfl) ?_
      refine nil_in ?_
      refine next_in ?_
      refine ret_in ?_
      have h := Option.some.inj h; subst h
      exact ret1_step (v := (.d (.b true))) (by kernel_rfl) (by kernel_rfl) (by kernel_rfl)
theorem OK_sDbOk_L1 (x5 : Int) (p0 : GCatalog) (p1 : GDb) (x6 : Int) (r : Bool) (h : sDbOk_L1 x5 p0 p1 x6 = some r) : avc Try.prog acsDbOk_L1 (qsDbOk_5 r) (stsDbOk_L1 x5 p0 p1 x6) := (OKs_sDbOk_L1 p0 p1).1 x5 x6 r h
theorem OK_sDbOk_L0 (p0 : GCatalog) (p1 : GDb) (x5 : Int) (r : Bool) (h : sDbOk_L0 p0 p1 x5 = some r) : avc Try.prog acsDbOk_L0 (qsDbOk_1 r) (stsDbOk_L0 p0 p1 x5) := (OKs_sDbOk_L1 p0 p1).2 x5 r h
theorem OK_sDbOk (p0 : GCatalog) (p1 : GDb) : FOk Try.prog 41 [(vGCatalog p0), (vGDb p1)] (fun y => (.d (.b y))) (sDbOk p0 p1) := by
  intro r h
  rw [sDbOk] at h
  refine acalls_of_fn trsDbOk (Nat.le_of_ble_eq_true rfl) (by simp) ?_
  show avc Try.prog acsDbOk (qsDbOk _) ⟨[(0, (vGCatalog p0)), (1, (vGDb p1))], []⟩
  delta acsDbOk
  refine seq_in ?_
  refine ops_in ?_
  refine sts_ok 3 (s' := ⟨[(4, (.d (.b false))), (3, (.ptr 3 0)), (2, (.ptr 2 0)), (0, (vGCatalog p0)), (1, (vGDb p1))], [(3, [(.d (.sl 1 (p1.tables.map cGData)))]), (2, [(.d (.sl 2 (p0.tables.map cGTable)))])]⟩) (by kernel_rfl) ?_
  refine nil_in ?_
  refine next_in ?_
  refine seq_in ?_
  refine seq_in ?_
  refine ops_in ?_
  refine sts_ok 1 (s' := ⟨[(7, (vGCatalog p0)), (4, (.d (.b false))), (3, (.ptr 3 0)), (2, (.ptr 2 0)), (0, (vGCatalog p0)), (1, (vGDb p1))], [(3, [(.d (.sl 1 (p1.tables.map cGData)))]), (2, [(.d (.sl 2 (p0.tables.map cGTable)))])]⟩) (by kernel_rfl) ?_
  refine call_step (m := sCatalogOk p0) (args := [(vGCatalog p0)]) (v' := (fun y => (.d (.b y)))) h (OK_sCatalogOk p0) (by kernel_rfl) (by kernel_rfl) (fun _ => rfl) ?_
  clear h; intro y1 h
  refine sts_ok 2 (s' := ⟨[(10, (.d (.b (!y1)))), (9, (.d (.b (!y1)))), (8, (.d (.b y1))), (7, (vGCatalog p0)), (4, (.d (.b false))), (3, (.ptr 3 0)), (2, (.ptr 2 0)), (0, (vGCatalog p0)), (1, (vGDb p1))], [(3, [(.d (.sl 1 (p1.tables.map cGData)))]), (2, [(.d (.sl 2 (p0.tables.map cGTable)))])]⟩) (by kernel_rfl) ?_
  refine gp_step (p := true) (b := (!y1)) (v' := (.ptr 3 0)) (by kernel_rfl) rfl rfl (fun hc => vop_val1 (by kernel_rfl) (by kernel_rfl)) ?_
  refine gp_step (p := true) (b := (!y1)) (v' := (.d (.sl 1 (p1.tables.map cGData)))) (by kernel_rfl) rfl rfl (fun hc => vop_val1 (Eq.trans (b := ([(true && ((!y1) == false))] : List Bool).all id) (by kernel_rfl) (all_c hc rfl)) (by kernel_rfl)) ?_
  refine gp_step (p := true) (b := (!y1)) (v' := (.d (.i .i64 (p1.tables.length : Int)))) (by kernel_rfl) rfl rfl (fun hc => vop_len (sz := 1) (l := p1.tables) (f := cGData) (Eq.trans (b := ([(true && ((!y1) == false))] : List Bool).all id) (by kernel_rfl) (all_c hc rfl)) (by kernel_rfl)) ?_
  refine gp_step (p := true) (b := (!y1)) (v' := (.ptr 2 0)) (by kernel_rfl) rfl rfl (fun hc => vop_val1 (by kernel_rfl) (by kernel_rfl)) ?_
  refine gp_step (p := true) (b := (!y1)) (v' := (.d (.sl 2 (p0.tables.map cGTable)))) (by kernel_rfl) rfl rfl (fun hc => vop_val1 (Eq.trans (b := ([(true && ((!y1) == false))] : List Bool).all id) (by kernel_rfl) (all_c hc rfl)) (by kernel_rfl)) ?_
  refine gp_step (p := true) (b := (!y1)) (v' := (.d (.i .i64 (p0.tables.length : Int)))) (by kernel_rfl) rfl rfl (fun hc => vop_len (sz := 2) (l := p0.tables) (f := cGTable) (Eq.trans (b := ([(true && ((!y1) == false))] : List Bool).all id) (by kernel_rfl) (all_c hc rfl)) (by kernel_rfl)) ?_
  refine gp_step (p := true) (b := (!y1)) (v' := (.d (.b (!decide ((p1.tables.length : Int) = (p0.tables.length : Int)))))) (by kernel_rfl) rfl rfl (fun hc => vop_val1 (Eq.trans (b := ([(true && ((!y1) == false)), (true && ((!y1) == false))] : List Bool).all id) (by kernel_rfl) (all_c hc (all_c hc rfl))) (by kernel_rfl)) ?_
  refine p_step (v' := (.d (.b (if (!y1) = true then true else (!decide ((p1.tables.length : Int) = (p0.tables.length : Int))))))) rfl rfl (vop_pick (b := (!y1)) (p := true) (u := true) (q := (true && ((!y1) == false))) (v := (!decide ((p1.tables.length : Int) = (p0.tables.length : Int)))) (by kernel_rfl) (by kernel_rfl) (by kernel_rfl) (by kernel_rfl) (fun _ => rfl) (fun hb => gc_f rfl hb)) ?_
  refine nil_in ?_
  refine next_in ?_
  refine cond_step h (by kernel_rfl) ?_ ?_
  · clear h; intro h
    refine seq_in ?_
    refine ops_in ?_
    refine sts_ok 1 (s' := ⟨[(4, (.d (.b false))), (18, (.d (.b (if (!y1) = true then true else (!decide ((p1.tables.length : Int) = (p0.tables.length : Int))))))), (17, (.ite (true && ((!y1) == false)) (.d (.b (!decide ((p1.tables.length : Int) = (p0.tables.length : Int))))))), (16, (.ite (true && ((!y1) == false)) (.d (.i .i64 (p0.tables.length : Int))))), (15, (.ite (true && ((!y1) == false)) (.d (.sl 2 (p0.tables.map cGTable))))), (14, (.ite (true && ((!y1) == false)) (.ptr 2 0))), (13, (.ite (true && ((!y1) == false)) (.d (.i .i64 (p1.tables.length : Int))))), (12, (.ite (true && ((!y1) == false)) (.d (.sl 1 (p1.tables.map cGData))))), (11, (.ite (true && ((!y1) == false)) (.ptr 3 0))), (10, (.d (.b (!y1)))), (9, (.d (.b (!y1)))), (8, (.d (.b y1))), (7, (vGCatalog p0)), (4, (.d (.b false))), (3, (.ptr 3 0)), (2, (.ptr 2 0)), (0, (vGCatalog p0)), (1, (vGDb p1))], [(3, [(.d (.sl 1 (p1.tables.map cGData)))]), (2, [(.d (.sl 2 (p0.tables.map cGTable)))])]⟩) (by kernel_rfl) ?_
    refine nil_in ?_
    refine next_in ?_
    refine ret_in ?_
    refine thenK_ret ?_
    have h := Option.some.inj h; subst h
    exact ret1_step (v := (.d (.b false))) (by kernel_rfl) (by kernel_rfl) (by kernel_rfl)
  · clear h; intro h
    refine skip_in ?_
    refine next_in ?_
    refine seq_in ?_
    refine seq_in ?_
    refine ops_in ?_
    refine sts_ok 1 (s' := ⟨[(5, (.d (.i .i64 0))), (18, (.d (.b (if (!y1) = true then true else (!decide ((p1.tables.length : Int) = (p0.tables.length : Int))))))), (17, (.ite (true && ((!y1) == false)) (.d (.b (!decide ((p1.tables.length : Int) = (p0.tables.length : Int))))))), (16, (.ite (true && ((!y1) == false)) (.d (.i .i64 (p0.tables.length : Int))))), (15, (.ite (true && ((!y1) == false)) (.d (.sl 2 (p0.tables.map cGTable))))), (14, (.ite (true && ((!y1) == false)) (.ptr 2 0))), (13, (.ite (true && ((!y1) == false)) (.d (.i .i64 (p1.tables.length : Int))))), (12, (.ite (true && ((!y1) == false)) (.d (.sl 1 (p1.tables.map cGData))))), (11, (.ite (true && ((!y1) == false)) (.ptr 3 0))), (10, (.d (.b (!y1)))), (9, (.d (.b (!y1)))), (8, (.d (.b y1))), (7, (vGCatalog p0)), (4, (.d (.b false))), (3, (.ptr 3 0)), (2, (.ptr 2 0)), (0, (vGCatalog p0)), (1, (vGDb p1))], [(3, [(.d (.sl 1 (p1.tables.map cGData)))]), (2, [(.d (.sl 2 (p0.tables.map cGTable)))])]⟩) (by kernel_rfl) ?_
    refine nil_in ?_
    refine next_in ?_
    refine block_in ?_
    exact loop_go (s' := stsDbOk_L0 p0 p1 0) (wk_ren [] (by kernel_rfl) (er_cons (vr_same (by kernel_rfl) (by kernel_rfl)) (er_cons (vr_same (by kernel_rfl) (by kernel_rfl)) (er_cons (vr_same (by kernel_rfl) (by kernel_rfl)) (er_nil)))) (br_same (by kernel_rfl) (by kernel_rfl) (br_same (by kernel_rfl) (by kernel_rfl) (br_nil)))) (OK_sDbOk_L0 p0 p1 0 _ h)
theorem OK_wEqCol (p0 : GCol) (p1 : GCol) : FOk Try.prog 219 [(vGCol p0), (vGCol p1)] (fun y => (.d (.b y))) (wEqCol p0 p1) := by
  intro r h
  rw [wEqCol] at h
  refine acalls_of_fn trwEqCol (Nat.le_of_ble_eq_true rfl) (by simp) ?_
  show avc Try.prog acwEqCol (qwEqCol _) ⟨[(0, (vGCol p0)), (1, (vGCol p1))], []⟩
  delta acwEqCol
  refine seq_in ?_
  refine ops_in ?_
  refine sts_ok 3 (s' := ⟨[(4, (.d (.b false))), (3, (.ptr 3 0)), (2, (.ptr 2 0)), (0, (vGCol p0)), (1, (vGCol p1))], [(3, [(.d (.s (bs p1.name))), (.d (.i .i64 p1.type))]), (2, [(.d (.s (bs p0.name))), (.d (.i .i64 p0.type))])]⟩) (by kernel_rfl) ?_
  refine nil_in ?_
  refine next_in ?_
  refine seq_in ?_
  refine seq_in ?_
  refine ops_in ?_
  refine sts_ok 5 (s' := ⟨[(9, (.d (.b (!decide (p0.name = p1.name))))), (8, (.d (.s (bs p1.name)))), (7, (.ptr 3 0)), (6, (.d (.s (bs p0.name)))), (5, (.ptr 2 0)), (4, (.d (.b false))), (3, (.ptr 3 0)), (2, (.ptr 2 0)), (0, (vGCol p0)), (1, (vGCol p1))], [(3, [(.d (.s (bs p1.name))), (.d (.i .i64 p1.type))]), (2, [(.d (.s (bs p0.name))), (.d (.i .i64 p0.type))])]⟩) (by kernel_rfl) ?_
  refine nil_in ?_
  refine next_in ?_
  refine cond_step h (by kernel_rfl) ?_ ?_
  · clear h; intro h
    refine seq_in ?_
    refine ops_in ?_
    refine sts_ok 1 (s' := ⟨[(4, (.d (.b false))), (9, (.d (.b (!decide (p0.name = p1.name))))), (8, (.d (.s (bs p1.name)))), (7, (.ptr 3 0)), (6, (.d (.s (bs p0.name)))), (5, (.ptr 2 0)), (4, (.d (.b false))), (3, (.ptr 3 0)), (2, (.ptr 2 0)), (0, (vGCol p0)), (1, (vGCol p1))], [(3, [(.d (.s (bs p1.name))), (.d (.i .i64 p1.type))]), (2, [(.d (.s (bs p0.name))), (.d (.i .i64 p0.type))])]⟩) (by kernel_rfl) ?_
    refine nil_in ?_
    refine next_in ?_
    refine ret_in ?_
    refine thenK_ret ?_
    have h := Option.some.inj h; subst h
    exact ret1_step (v := (.d (.b false))) (by kernel_rfl) (by kernel_rfl) (by kernel_rfl)
  · clear h; intro h
    refine skip_in ?_
    refine next_in ?_
    refine seq_in ?_
    refine seq_in ?_
    refine ops_in ?_
    refine sts_ok 5 (s' := ⟨[(14, (.d (.b (!decide (p0.type = p1.type))))), (13, (.d (.i .i64 p1.type))), (12, (.ptr 3 1)), (11, (.d (.i .i64 p0.type))), (10, (.ptr 2 1)), (9, (.d (.b (!decide (p0.name = p1.name))))), (8, (.d (.s (bs p1.name)))), (7, (.ptr 3 0)), (6, (.d (.s (bs p0.name)))), (5, (.ptr 2 0)), (4, (.d (.b false))), (3, (.ptr 3 0)), (2, (.ptr 2 0)), (0, (vGCol p0)), (1, (vGCol p1))], [(3, [(.d (.s (bs p1.name))), (.d (.i .i64 p1.type))]), (2, [(.d (.s (bs p0.name))), (.d (.i .i64 p0.type))])]⟩) (by kernel_rfl) ?_
    refine nil_in ?_
    refine next_in ?_
    refine cond_step h (by kernel_rfl) ?_ ?_
    · clear h; intro h
      refine seq_in ?_
      refine ops_in ?_
      refine sts_ok 1 (s' := ⟨[(4, (.d (.b false))), (14, (.d (.b (!decide (p0.type = p1.type))))), (13, (.d (.i .i64 p1.type))), (12, (.ptr 3 1)), (11, (.d (.i .i64 p0.type))), (10, (.ptr 2 1)), (9, (.d (.b (!decide (p0.name = p1.name))))), (8, (.d (.s (bs p1.name)))), (7, (.ptr 3 0)), (6, (.d (.s (bs p0.name)))), (5, (.ptr 2 0)), (4, (.d (.b false))), (3, (.ptr 3 0)), (2, (.ptr 2 0)), (0, (vGCol p0)), (1, (vGCol p1))], [(3, [(.d (.s (bs p1.name))), (.d (.i .i64 p1.type))]), (2, [(.d (.s (bs p0.name))), (.d (.i .i64 p0.type))])]⟩) (by kernel_rfl) ?_
      refine nil_in ?_
      refine next_in ?_
      refine ret_in ?_
      refine thenK_ret ?_
      have h := Option.some.inj h; subst h
      exact ret1_step (v := (.d (.b false))) (by kernel_rfl) (by kernel_rfl) (by kernel_rfl)
    · clear h; intro h
      refine skip_in ?_
      refine next_in ?_
      refine seq_in ?_
      refine ops_in ?_
      refine sts_ok 1 (s' := ⟨[(4, (.d (.b true))), (14, (.d (.b (!decide (p0.type = p1.type))))), (13, (.d (.i .i64 p1.type))), (12, (.ptr 3 1)), (11, (.d (.i .i64 p0.type))), (10, (.ptr 2 1)), (9, (.d (.b (!decide (p0.name = p1.name))))), (8, (.d (.s (bs p1.name)))), (7, (.ptr 3 0)), (6, (.d (.s (bs p0.name)))), (5, (.ptr 2 0)), (4, (.d (.b false))), (3, (.ptr 3 0)), (2, (.ptr 2 0)), (0, (vGCol p0)), (1, (vGCol p1))], [(3, [(.d (.s (bs p1.name))), (.d (.i .i64 p1.type))]), (2, [(.d (.s (bs p0.name))), (.d (.i .i64 p0.type))])]⟩) (by kernel_rfl) ?_
      refine nil_in ?_
      refine next_in ?_
      refine ret_in ?_
      have h := Option.some.inj h; subst h
      exact ret1_step (v := (.d (.b true))) (by kernel_rfl) (by kernel_rfl) (by kernel_rfl)
theorem OKs_wEqColS_L0 (p0 : (List GCol)) (p1 : (List GCol)) : (∀ (x5 : Int) (r : Bool), wEqColS_L0 p0 p1 x5 = some r → avc Try.prog acwEqColS_L0 (qwEqColS_1 r) (stwEqColS_L0 p0 p1 x5)) := by
  refine wEqColS_L0.partial_correctness p0 p1 (fun x5 r => avc Try.prog acwEqColS_L0 (qwEqColS_1 r) (stwEqColS_L0 p0 p1 x5)) ?_
  · intro F_wEqColS_L0 OK_wEqColS_L0 x5 r h
    delta acwEqColS_L0
    refine loop_unroll ?_
    refine seq_in ?_
    refine seq_in ?_
    refine ops_in ?_
    refine sts_ok 2 (s' := ⟨(12, (.d (.sl 2 (p0.map cGCol)))) :: (11, (.d (.i .i64 x5))) :: (stwEqColS_L0 p0 p1 x5).env, (stwEqColS_L0 p0 p1 x5).bx⟩) (by kernel_rfl) ?_
    refine p_step (v' := (.d (.i .i64 (p0.length : Int)))) rfl rfl (vop_len (sz := 2) (l := p0) (f := cGCol) (by kernel_rfl) (by kernel_rfl)) ?_
    refine sts_ok 1 (s' := ⟨(14, (.d (.b (decide (x5 < (p0.length : Int)))))) :: (13, (.d (.i .i64 (p0.length : Int)))) :: (12, (.d (.sl 2 (p0.map cGCol)))) :: (11, (.d (.i .i64 x5))) :: (stwEqColS_L0 p0 p1 x5).env, (stwEqColS_L0 p0 p1 x5).bx⟩) (by kernel_rfl) ?_
    refine nil_in ?_
    refine next_in ?_
    refine cond_step h (by kernel_rfl) ?_ ?_
    · clear h; intro h
      refine skip_in ?_
      refine next_in ?_
      refine seq_in ?_
      refine block_in ?_
      refine seq_in ?_
      refine dops_in ?_
      refine dsts_ok 2 (s' := ⟨(18, (.d (.i .i64 x5))) :: (17, (.d (.sl 2 (p0.map cGCol)))) :: (14, (.d (.b (decide (x5 < (p0.length : Int)))))) :: (13, (.d (.i .i64 (p0.length : Int)))) :: (12, (.d (.sl 2 (p0.map cGCol)))) :: (11, (.d (.i .i64 x5))) :: (stwEqColS_L0 p0 p1 x5).env, (stwEqColS_L0 p0 p1 x5).bx⟩) (by kernel_rfl) ?_
      refine dv_step (m := idx p0 x5) (v' := fun y => (.rp [(.s (bs y.name)), (.i .i64 y.type)])) h rfl rfl (fun y hy => vop_ia (l := p0) (f := cGCol) (g := cGCol) (k := .i64) hy (fun _ => rfl) (by kernel_rfl) (by kernel_rfl) (by kernel_rfl)) ?_
      clear h; intro y1 h
      refine dsts_ok 3 (s' := ⟨(22, (.d (.i .i64 x5))) :: (21, (.d (.sl 2 (p1.map cGCol)))) :: (20, (vGCol y1)) :: (19, (.rp [(.s (bs y1.name)), (.i .i64 y1.type)])) :: (18, (.d (.i .i64 x5))) :: (17, (.d (.sl 2 (p0.map cGCol)))) :: (14, (.d (.b (decide (x5 < (p0.length : Int)))))) :: (13, (.d (.i .i64 (p0.length : Int)))) :: (12, (.d (.sl 2 (p0.map cGCol)))) :: (11, (.d (.i .i64 x5))) :: (stwEqColS_L0 p0 p1 x5).env, (stwEqColS_L0 p0 p1 x5).bx⟩) (by kernel_rfl) ?_
      refine dv_step (m := idx p1 x5) (v' := fun y => (.rp [(.s (bs y.name)), (.i .i64 y.type)])) h rfl rfl (fun y hy => vop_ia (l := p1) (f := cGCol) (g := cGCol) (k := .i64) hy (fun _ => rfl) (by kernel_rfl) (by kernel_rfl) (by kernel_rfl)) ?_
      clear h; intro y2 h
      refine dsts_ok 1 (s' := ⟨(24, (vGCol y2)) :: (23, (.rp [(.s (bs y2.name)), (.i .i64 y2.type)])) :: (22, (.d (.i .i64 x5))) :: (21, (.d (.sl 2 (p1.map cGCol)))) :: (20, (vGCol y1)) :: (19, (.rp [(.s (bs y1.name)), (.i .i64 y1.type)])) :: (18, (.d (.i .i64 x5))) :: (17, (.d (.sl 2 (p0.map cGCol)))) :: (14, (.d (.b (decide (x5 < (p0.length : Int)))))) :: (13, (.d (.i .i64 (p0.length : Int)))) :: (12, (.d (.sl 2 (p0.map cGCol)))) :: (11, (.d (.i .i64 x5))) :: (stwEqColS_L0 p0 p1 x5).env, (stwEqColS_L0 p0 p1 x5).bx⟩) (by kernel_rfl) ?_
      refine dcall_step (m := wEqCol y1 y2) (args := [(vGCol y1), (vGCol y2)]) (v' := (fun y => (.d (.b y)))) h (OK_wEqCol y1 y2) (by kernel_rfl) (by kernel_rfl) (fun _ => rfl) ?_
      clear h; intro y3 h
      refine dsts_ok 1 (s' := ⟨(26, (.d (.b (!y3)))) :: (25, (.d (.b y3))) :: (24, (vGCol y2)) :: (23, (.rp [(.s (bs y2.name)), (.i .i64 y2.type)])) :: (22, (.d (.i .i64 x5))) :: (21, (.d (.sl 2 (p1.map cGCol)))) :: (20, (vGCol y1)) :: (19, (.rp [(.s (bs y1.name)), (.i .i64 y1.type)])) :: (18, (.d (.i .i64 x5))) :: (17, (.d (.sl 2 (p0.map cGCol)))) :: (14, (.d (.b (decide (x5 < (p0.length : Int)))))) :: (13, (.d (.i .i64 (p0.length : Int)))) :: (12, (.d (.sl 2 (p0.map cGCol)))) :: (11, (.d (.i .i64 x5))) :: (stwEqColS_L0 p0 p1 x5).env, (stwEqColS_L0 p0 p1 x5).bx⟩) (by kernel_rfl) ?_
      refine dnil_in (by kernel_rfl) (by kernel_rfl) ?_
      refine next_in ?_
      refine cond_step h (by kernel_rfl) ?_ ?_
      · clear h; intro h
        refine seq_in ?_
        refine ops_in ?_
        refine sts_ok 1 (s' := ⟨(4, (.d (.b false))) :: (26, (.d (.b (!y3)))) :: (25, (.d (.b y3))) :: (24, (vGCol y2)) :: (23, (.rp [(.s (bs y2.name)), (.i .i64 y2.type)])) :: (22, (.d (.i .i64 x5))) :: (21, (.d (.sl 2 (p1.map cGCol)))) :: (20, (vGCol y1)) :: (19, (.rp [(.s (bs y1.name)), (.i .i64 y1.type)])) :: (18, (.d (.i .i64 x5))) :: (17, (.d (.sl 2 (p0.map cGCol)))) :: (14, (.d (.b (decide (x5 < (p0.length : Int)))))) :: (13, (.d (.i .i64 (p0.length : Int)))) :: (12, (.d (.sl 2 (p0.map cGCol)))) :: (11, (.d (.i .i64 x5))) :: (stwEqColS_L0 p0 p1 x5).env, (stwEqColS_L0 p0 p1 x5).bx⟩) (by kernel_rfl) ?_
        refine nil_in ?_
        refine next_in ?_
        refine ret_in ?_
        refine blockK_ret ?_
        refine thenK_ret ?_
        refine thenK_ret ?_
        refine blockK_ret ?_
        refine thenK_ret ?_
        have h := Option.some.inj h; subst h
        exact ret1_step (v := (.d (.b false))) (by kernel_rfl) (by kernel_rfl) (by kernel_rfl)
      · clear h; intro h
        refine skip_in ?_
        refine blockK_norm ?_
        refine next_in ?_
        refine ops_in ?_
        refine sts_ok 3 (s' := ⟨(5, (.d (.i .i64 (IntKind.wrap .i64 (x5 + 1))))) :: (16, (.d (.i .i64 (IntKind.wrap .i64 (x5 + 1))))) :: (15, (.d (.i .i64 x5))) :: (26, (.d (.b (!y3)))) :: (25, (.d (.b y3))) :: (24, (vGCol y2)) :: (23, (.rp [(.s (bs y2.name)), (.i .i64 y2.type)])) :: (22, (.d (.i .i64 x5))) :: (21, (.d (.sl 2 (p1.map cGCol)))) :: (20, (vGCol y1)) :: (19, (.rp [(.s (bs y1.name)), (.i .i64 y1.type)])) :: (18, (.d (.i .i64 x5))) :: (17, (.d (.sl 2 (p0.map cGCol)))) :: (14, (.d (.b (decide (x5 < (p0.length : Int)))))) :: (13, (.d (.i .i64 (p0.length : Int)))) :: (12, (.d (.sl 2 (p0.map cGCol)))) :: (11, (.d (.i .i64 x5))) :: (stwEqColS_L0 p0 p1 x5).env, (stwEqColS_L0 p0 p1 x5).bx⟩) (by kernel_rfl) ?_
        refine nil_in ?_
        exact loop_back (s' := stwEqColS_L0 p0 p1 (IntKind.wrap .i64 (x5 + 1))) (wk_ren [] (by kernel_rfl) (er_cons (vr_same (by kernel_rfl) (by kernel_rfl)) (er_cons (vr_same (by kernel_rfl) (by kernel_rfl)) (er_cons (vr_same (by kernel_rfl) (by kernel_rfl)) (er_nil)))) (br_nil)) (OK_wEqColS_L0 (IntKind.wrap .i64 (x5 + 1)) _ h)
    · clear h; intro h
      refine exit_in ?_
      refine thenK_exit ?_
      refine thenK_exit ?_
      refine blockK_here ?_
      refine next_in ?_
      refine seq_in ?_
      refine ops_in ?_
      refine sts_ok 1 (s' := ⟨(4, (.d (.b true))) :: (14, (.d (.b (decide (x5 < (p0.length : Int)))))) :: (13, (.d (.i .i64 (p0.length : Int)))) :: (12, (.d (.sl 2 (p0.map cGCol)))) :: (11, (.d (.i .i64 x5))) :: (stwEqColS_L0 p0 p1 x5).env, (stwEqColS_L0 p0 p1 x5).bx⟩) (by kernel_rfl) ?_
      refine nil_in ?_
      refine next_in ?_
      refine ret_in ?_
      have h := Option.some.inj h; subst h
      exact ret1_step (v := (.d (.b true))) (by kernel_rfl) (by kernel_rfl) (by kernel_rfl)
theorem OK_wEqColS_L0 (p0 : (List GCol)) (p1 : (List GCol)) (x5 : Int) (r : Bool) (h : wEqColS_L0 p0 p1 x5 = some r) : avc Try.prog acwEqColS_L0 (qwEqColS_1 r) (stwEqColS_L0 p0 p1 x5) := (OKs_wEqColS_L0 p0 p1) x5 r h
theorem OK_wEqColS (p0 : (List GCol)) (p1 : (List GCol)) : FOk Try.prog 203 [(.d (.sl 2 (p0.map cGCol))), (.d (.sl 2 (p1.map cGCol)))] (fun y => (.d (.b y))) (wEqColS p0 p1) := by
  intro r h
  rw [wEqColS] at h
  refine acalls_of_fn trwEqColS (Nat.le_of_ble_eq_true rfl) (by simp) ?_
  show avc Try.prog acwEqColS (qwEqColS _) ⟨[(0, (.d (.sl 2 (p0.map cGCol)))), (1, (.d (.sl 2 (p1.map cGCol))))], []⟩
  delta acwEqColS
  refine seq_in ?_
  refine ops_in ?_
  refine sts_ok 1 (s' := ⟨[(4, (.d (.b false))), (0, (.d (.sl 2 (p0.map cGCol)))), (1, (.d (.sl 2 (p1.map cGCol))))], []⟩) (by kernel_rfl) ?_
  refine nil_in ?_
  refine next_in ?_
  refine seq_in ?_
  refine seq_in ?_
  refine ops_in ?_
  refine sts_ok 1 (s' := ⟨[(6, (.d (.sl 2 (p0.map cGCol)))), (4, (.d (.b false))), (0, (.d (.sl 2 (p0.map cGCol)))), (1, (.d (.sl 2 (p1.map cGCol))))], []⟩) (by kernel_rfl) ?_
  refine p_step (v' := (.d (.i .i64 (p0.length : Int)))) rfl rfl (vop_len (sz := 2) (l := p0) (f := cGCol) (by kernel_rfl) (by kernel_rfl)) ?_
  refine sts_ok 1 (s' := ⟨[(8, (.d (.sl 2 (p1.map cGCol)))), (7, (.d (.i .i64 (p0.length : Int)))), (6, (.d (.sl 2 (p0.map cGCol)))), (4, (.d (.b false))), (0, (.d (.sl 2 (p0.map cGCol)))), (1, (.d (.sl 2 (p1.map cGCol))))], []⟩) (by kernel_rfl) ?_
  refine p_step (v' := (.d (.i .i64 (p1.length : Int)))) rfl rfl (vop_len (sz := 2) (l := p1) (f := cGCol) (by kernel_rfl) (by kernel_rfl)) ?_
  refine sts_ok 1 (s' := ⟨[(10, (.d (.b (!decide ((p0.length : Int) = (p1.length : Int)))))), (9, (.d (.i .i64 (p1.length : Int)))), (8, (.d (.sl 2 (p1.map cGCol)))), (7, (.d (.i .i64 (p0.length : Int)))), (6, (.d (.sl 2 (p0.map cGCol)))), (4, (.d (.b false))), (0, (.d (.sl 2 (p0.map cGCol)))), (1, (.d (.sl 2 (p1.map cGCol))))], []⟩) (by kernel_rfl) ?_
  refine nil_in ?_
  refine next_in ?_
  refine cond_step h (by kernel_rfl) ?_ ?_
  · clear h; intro h
    refine seq_in ?_
    refine ops_in ?_
    refine sts_ok 1 (s' := ⟨[(4, (.d (.b false))), (10, (.d (.b (!decide ((p0.length : Int) = (p1.length : Int)))))), (9, (.d (.i .i64 (p1.length : Int)))), (8, (.d (.sl 2 (p1.map cGCol)))), (7, (.d (.i .i64 (p0.length : Int)))), (6, (.d (.sl 2 (p0.map cGCol)))), (4, (.d (.b false))), (0, (.d (.sl 2 (p0.map cGCol)))), (1, (.d (.sl 2 (p1.map cGCol))))], []⟩) (by kernel_rfl) ?_
    refine nil_in ?_
    refine next_in ?_
    refine ret_in ?_
    refine thenK_ret ?_
    have h := Option.some.inj h; subst h
    exact ret1_step (v := (.d (.b false))) (by kernel_rfl) (by kernel_rfl) (by kernel_rfl)
  · clear h; intro h
    refine skip_in ?_
    refine next_in ?_
    refine seq_in ?_
    refine seq_in ?_
    refine ops_in ?_
    refine sts_ok 1 (s' := ⟨[(5, (.d (.i .i64 0))), (10, (.d (.b (!decide ((p0.length : Int) = (p1.length : Int)))))), (9, (.d (.i .i64 (p1.length : Int)))), (8, (.d (.sl 2 (p1.map cGCol)))), (7, (.d (.i .i64 (p0.length : Int)))), (6, (.d (.sl 2 (p0.map cGCol)))), (4, (.d (.b false))), (0, (.d (.sl 2 (p0.map cGCol)))), (1, (.d (.sl 2 (p1.map cGCol))))], []⟩) (by kernel_rfl) ?_
    refine nil_in ?_
    refine next_in ?_
    refine block_in ?_
    exact loop_go (s' := stwEqColS_L0 p0 p1 0) (wk_ren [] (by kernel_rfl) (er_cons (vr_same (by kernel_rfl) (by kernel_rfl)) (er_cons (vr_same (by kernel_rfl) (by kernel_rfl)) (er_cons (vr_same (by kernel_rfl) (by kernel_rfl)) (er_nil)))) (br_nil)) (OK_wEqColS_L0 p0 p1 0 _ h)
theorem OK_wEqTable (p0 : GTable) (p1 : GTable) : FOk Try.prog 165 [(vGTable p0), (vGTable p1)] (fun y => (.d (.b y))) (wEqTable p0 p1) := by
  intro r h
  rw [wEqTable] at h
  refine acalls_of_fn trwEqTable (Nat.le_of_ble_eq_true rfl) (by simp) ?_
  show avc Try.prog acwEqTable (qwEqTable _) ⟨[(0, (vGTable p0)), (1, (vGTable p1))], []⟩
  delta acwEqTable
  refine seq_in ?_
  refine ops_in ?_
  refine sts_ok 3 (s' := ⟨[(4, (.d (.b false))), (3, (.ptr 3 0)), (2, (.ptr 2 0)), (0, (vGTable p0)), (1, (vGTable p1))], [(3, [(.d (.s (bs p1.name))), (.d (.sl 2 (p1.cols.map cGCol)))]), (2, [(.d (.s (bs p0.name))), (.d (.sl 2 (p0.cols.map cGCol)))])]⟩) (by kernel_rfl) ?_
  refine nil_in ?_
  refine next_in ?_
  refine seq_in ?_
  refine seq_in ?_
  refine ops_in ?_
  refine sts_ok 5 (s' := ⟨[(9, (.d (.b (!decide (p0.name = p1.name))))), (8, (.d (.s (bs p1.name)))), (7, (.ptr 3 0)), (6, (.d (.s (bs p0.name)))), (5, (.ptr 2 0)), (4, (.d (.b false))), (3, (.ptr 3 0)), (2, (.ptr 2 0)), (0, (vGTable p0)), (1, (vGTable p1))], [(3, [(.d (.s (bs p1.name))), (.d (.sl 2 (p1.cols.map cGCol)))]), (2, [(.d (.s (bs p0.name))), (.d (.sl 2 (p0.cols.map cGCol)))])]⟩) (by kernel_rfl) ?_
  refine nil_in ?_
  refine next_in ?_
  refine cond_step h (by kernel_rfl) ?_ ?_
  · clear h; intro h
    refine seq_in ?_
    refine ops_in ?_
    refine sts_ok 1 (s' := ⟨[(4, (.d (.b false))), (9, (.d (.b (!decide (p0.name = p1.name))))), (8, (.d (.s (bs p1.name)))), (7, (.ptr 3 0)), (6, (.d (.s (bs p0.name)))), (5, (.ptr 2 0)), (4, (.d (.b false))), (3, (.ptr 3 0)), (2, (.ptr 2 0)), (0, (vGTable p0)), (1, (vGTable p1))], [(3, [(.d (.s (bs p1.name))), (.d (.sl 2 (p1.cols.map cGCol)))]), (2, [(.d (.s (bs p0.name))), (.d (.sl 2 (p0.cols.map cGCol)))])]⟩) (by kernel_rfl) ?_
    refine nil_in ?_
    refine next_in ?_
    refine ret_in ?_
    refine thenK_ret ?_
    have h := Option.some.inj h; subst h
    exact ret1_step (v := (.d (.b false))) (by kernel_rfl) (by kernel_rfl) (by kernel_rfl)
  · clear h; intro h
    refine skip_in ?_
    refine next_in ?_
    refine seq_in ?_
    refine seq_in ?_
    refine ops_in ?_
    refine sts_ok 4 (s' := ⟨[(13, (.d (.sl 2 (p1.cols.map cGCol)))), (12, (.ptr 3 1)), (11, (.d (.sl 2 (p0.cols.map cGCol)))), (10, (.ptr 2 1)), (9, (.d (.b (!decide (p0.name = p1.name))))), (8, (.d (.s (bs p1.name)))), (7, (.ptr 3 0)), (6, (.d (.s (bs p0.name)))), (5, (.ptr 2 0)), (4, (.d (.b false))), (3, (.ptr 3 0)), (2, (.ptr 2 0)), (0, (vGTable p0)), (1, (vGTable p1))], [(3, [(.d (.s (bs p1.name))), (.d (.sl 2 (p1.cols.map cGCol)))]), (2, [(.d (.s (bs p0.name))), (.d (.sl 2 (p0.cols.map cGCol)))])]⟩) (by kernel_rfl) ?_
    refine call_step (m := wEqColS p0.cols p1.cols) (args := [(.d (.sl 2 (p0.cols.map cGCol))), (.d (.sl 2 (p1.cols.map cGCol)))]) (v' := (fun y => (.d (.b y)))) h (OK_wEqColS p0.cols p1.cols) (by kernel_rfl) (by kernel_rfl) (fun _ => rfl) ?_
    clear h; intro y1 h
    refine sts_ok 1 (s' := ⟨[(15, (.d (.b (!y1)))), (14, (.d (.b y1))), (13, (.d (.sl 2 (p1.cols.map cGCol)))), (12, (.ptr 3 1)), (11, (.d (.sl 2 (p0.cols.map cGCol)))), (10, (.ptr 2 1)), (9, (.d (.b (!decide (p0.name = p1.name))))), (8, (.d (.s (bs p1.name)))), (7, (.ptr 3 0)), (6, (.d (.s (bs p0.name)))), (5, (.ptr 2 0)), (4, (.d (.b false))), (3, (.ptr 3 0)), (2, (.ptr 2 0)), (0, (vGTable p0)), (1, (vGTable p1))], [(3, [(.d (.s (bs p1.name))), (.d (.sl 2 (p1.cols.map cGCol)))]), (2, [(.d (.s (bs p0.name))), (.d (.sl 2 (p0.cols.map cGCol)))])]⟩) (by kernel_rfl) ?_
    refine nil_in ?_
    refine next_in ?_
    refine cond_step h (by kernel_rfl) ?_ ?_
    · clear h; intro h
      refine seq_in ?_
      refine ops_in ?_
      refine sts_ok 1 (s' := ⟨[(4, (.d (.b false))), (15, (.d (.b (!y1)))), (14, (.d (.b y1))), (13, (.d (.sl 2 (p1.cols.map cGCol)))), (12, (.ptr 3 1)), (11, (.d (.sl 2 (p0.cols.map cGCol)))), (10, (.ptr 2 1)), (9, (.d (.b (!decide (p0.name = p1.name))))), (8, (.d (.s (bs p1.name)))), (7, (.ptr 3 0)), (6, (.d (.s (bs p0.name)))), (5, (.ptr 2 0)), (4, (.d (.b false))), (3, (.ptr 3 0)), (2, (.ptr 2 0)), (0, (vGTable p0)), (1, (vGTable p1))], [(3, [(.d (.s (bs p1.name))), (.d (.sl 2 (p1.cols.map cGCol)))]), (2, [(.d (.s (bs p0.name))), (.d (.sl 2 (p0.cols.map cGCol)))])]⟩) (by kernel_rfl) ?_
      refine nil_in ?_
      refine next_in ?_
      refine ret_in ?_
      refine thenK_ret ?_
      have h := Option.some.inj h; subst h
      exact ret1_step (v := (.d (.b false))) (by kernel_rfl) (by kernel_rfl) (by kernel_rfl)
    · clear h; intro h
      refine skip_in ?_
      refine next_in ?_
      refine seq_in ?_
      refine ops_in ?_
      refine sts_ok 1 (s' := ⟨[(4, (.d (.b true))), (15, (.d (.b (!y1)))), (14, (.d (.b y1))), (13, (.d (.sl 2 (p1.cols.map cGCol)))), (12, (.ptr 3 1)), (11, (.d (.sl 2 (p0.cols.map cGCol)))), (10, (.ptr 2 1)), (9, (.d (.b (!decide (p0.name = p1.name))))), (8, (.d (.s (bs p1.name)))), (7, (.ptr 3 0)), (6, (.d (.s (bs p0.name)))), (5, (.ptr 2 0)), (4, (.d (.b false))), (3, (.ptr 3 0)), (2, (.ptr 2 0)), (0, (vGTable p0)), (1, (vGTable p1))], [(3, [(.d (.s (bs p1.name))), (.d (.sl 2 (p1.cols.map cGCol)))]), (2, [(.d (.s (bs p0.name))), (.d (.sl 2 (p0.cols.map cGCol)))])]⟩) (by kernel_rfl) ?_
      refine nil_in ?_
      refine next_in ?_
      refine ret_in ?_
      have h := Option.some.inj h; subst h
      exact ret1_step (v := (.d (.b true))) (by kernel_rfl) (by kernel_rfl) (by kernel_rfl)
theorem OKs_wEqTableS_L0 (p0 : (List GTable)) (p1 : (List GTable)) : (∀ (x5 : Int) (r : Bool), wEqTableS_L0 p0 p1 x5 = some r → avc Try.prog acwEqTableS_L0 (qwEqTableS_1 r) (stwEqTableS_L0 p0 p1 x5)) := by
  refine wEqTableS_L0.partial_correctness p0 p1 (fun x5 r => avc Try.prog acwEqTableS_L0 (qwEqTableS_1 r) (stwEqTableS_L0 p0 p1 x5)) ?_
  · intro F_wEqTableS_L0 OK_wEqTableS_L0 x5 r h
    delta acwEqTableS_L0
    refine loop_unroll ?_
    refine seq_in ?_
    refine seq_in ?_
    refine ops_in ?_
    refine sts_ok 2 (s' := ⟨(12, (.d (.sl 2 (p0.map cGTable)))) :: (11, (.d (.i .i64 x5))) :: (stwEqTableS_L0 p0 p1 x5).env, (stwEqTableS_L0 p0 p1 x5).bx⟩) (by kernel_rfl) ?_
    refine p_step (v' := (.d (.i .i64 (p0.length : Int)))) rfl rfl (vop_len (sz := 2) (l := p0) (f := cGTable) (by kernel_rfl) (by kernel_rfl)) ?_
    refine sts_ok 1 (s' := ⟨(14, (.d (.b (decide (x5 < (p0.length : Int)))))) :: (13, (.d (.i .i64 (p0.length : Int)))) :: (12, (.d (.sl 2 (p0.map cGTable)))) :: (11, (.d (.i .i64 x5))) :: (stwEqTableS_L0 p0 p1 x5).env, (stwEqTableS_L0 p0 p1 x5).bx⟩) (by kernel_rfl) ?_
    refine nil_in ?_
    refine next_in ?_
    refine cond_step h (by kernel_rfl) ?_ ?_
    · clear h; intro h
      refine skip_in ?_
      refine next_in ?_
      refine seq_in ?_
      refine block_in ?_
      refine seq_in ?_
      refine dops_in ?_
      refine dsts_ok 2 (s' := ⟨(18, (.d (.i .i64 x5))) :: (17, (.d (.sl 2 (p0.map cGTable)))) :: (14, (.d (.b (decide (x5 < (p0.length : Int)))))) :: (13, (.d (.i .i64 (p0.length : Int)))) :: (12, (.d (.sl 2 (p0.map cGTable)))) :: (11, (.d (.i .i64 x5))) :: (stwEqTableS_L0 p0 p1 x5).env, (stwEqTableS_L0 p0 p1 x5).bx⟩) (by kernel_rfl) ?_
      refine dv_step (m := idx p0 x5) (v' := fun y => (.rp [(.s (bs y.name)), (.sl 2 (y.cols.map cGCol))])) h rfl rfl (fun y hy => vop_ia (l := p0) (f := cGTable) (g := cGTable) (k := .i64) hy (fun _ => rfl) (by kernel_rfl) (by kernel_rfl) (by kernel_rfl)) ?_
      clear h; intro y1 h
      refine dsts_ok 3 (s' := ⟨(22, (.d (.i .i64 x5))) :: (21, (.d (.sl 2 (p1.map cGTable)))) :: (20, (vGTable y1)) :: (19, (.rp [(.s (bs y1.name)), (.sl 2 (y1.cols.map cGCol))])) :: (18, (.d (.i .i64 x5))) :: (17, (.d (.sl 2 (p0.map cGTable)))) :: (14, (.d (.b (decide (x5 < (p0.length : Int)))))) :: (13, (.d (.i .i64 (p0.length : Int)))) :: (12, (.d (.sl 2 (p0.map cGTable)))) :: (11, (.d (.i .i64 x5))) :: (stwEqTableS_L0 p0 p1 x5).env, (stwEqTableS_L0 p0 p1 x5).bx⟩) (by kernel_rfl) ?_
      refine dv_step (m := idx p1 x5) (v' := fun y => (.rp [(.s (bs y.name)), (.sl 2 (y.cols.map cGCol))])) h rfl rfl (fun y hy => vop_ia (l := p1) (f := cGTable) (g := cGTable) (k := .i64) hy (fun _ => rfl) (by kernel_rfl) (by kernel_rfl) (by kernel_rfl)) ?_
      clear h; intro y2 h
      refine dsts_ok 1 (s' := ⟨(24, (vGTable y2)) :: (23, (.rp [(.s (bs y2.name)), (.sl 2 (y2.cols.map cGCol))])) :: (22, (.d (.i .i64 x5))) :: (21, (.d (.sl 2 (p1.map cGTable)))) :: (20, (vGTable y1)) :: (19, (.rp [(.s (bs y1.name)), (.sl 2 (y1.cols.map cGCol))])) :: (18, (.d (.i .i64 x5))) :: (17, (.d (.sl 2 (p0.map cGTable)))) :: (14, (.d (.b (decide (x5 < (p0.length : Int)))))) :: (13, (.d (.i .i64 (p0.length : Int)))) :: (12, (.d (.sl 2 (p0.map cGTable)))) :: (11, (.d (.i .i64 x5))) :: (stwEqTableS_L0 p0 p1 x5).env, (stwEqTableS_L0 p0 p1 x5).bx⟩) (by kernel_rfl) ?_
      refine dcall_step (m := wEqTable y1 y2) (args := [(vGTable y1), (vGTable y2)]) (v' := (fun y => (.d (.b y)))) h (OK_wEqTable y1 y2) (by kernel_rfl) (by kernel_rfl) (fun _ => rfl) ?_
      clear h; intro y3 h
      refine dsts_ok 1 (s' := ⟨(26, (.d (.b (!y3)))) :: (25, (.d (.b y3))) :: (24, (vGTable y2)) :: (23, (.rp [(.s (bs y2.name)), (.sl 2 (y2.cols.map cGCol))])) :: (22, (.d (.i .i64 x5))) :: (21, (.d (.sl 2 (p1.map cGTable)))) :: (20, (vGTable y1)) :: (19, (.rp [(.s (bs y1.name)), (.sl 2 (y1.cols.map cGCol))])) :: (18, (.d (.i .i64 x5))) :: (17, (.d (.sl 2 (p0.map cGTable)))) :: (14, (.d (.b (decide (x5 < (p0.length : Int)))))) :: (13, (.d (.i .i64 (p0.length : Int)))) :: (12, (.d (.sl 2 (p0.map cGTable)))) :: (11, (.d (.i .i64 x5))) :: (stwEqTableS_L0 p0 p1 x5).env, (stwEqTableS_L0 p0 p1 x5).bx⟩) (by kernel_rfl) ?_
      refine dnil_in (by kernel_rfl) (by kernel_rfl) ?_
      refine next_in ?_
      refine cond_step h (by kernel_rfl) ?_ ?_
      · clear h; intro h
        refine seq_in ?_
        refine ops_in ?_
        refine sts_ok 1 (s' := ⟨(4, (.d (.b false))) :: (26, (.d (.b (!y3)))) :: (25, (.d (.b y3))) :: (24, (vGTable y2)) :: (23, (.rp [(.s (bs y2.name)), (.sl 2 (y2.cols.map cGCol))])) :: (22, (.d (.i .i64 x5))) :: (21, (.d (.sl 2 (p1.map cGTable)))) :: (20, (vGTable y1)) :: (19, (.rp [(.s (bs y1.name)), (.sl 2 (y1.cols.map cGCol))])) :: (18, (.d (.i .i64 x5))) :: (17, (.d (.sl 2 (p0.map cGTable)))) :: (14, (.d (.b (decide (x5 < (p0.length : Int)))))) :: (13, (.d (.i .i64 (p0.length : Int)))) :: (12, (.d (.sl 2 (p0.map cGTable)))) :: (11, (.d (.i .i64 x5))) :: (stwEqTableS_L0 p0 p1 x5).env, (stwEqTableS_L0 p0 p1 x5).bx⟩) (by kernel_rfl) ?_
        refine nil_in ?_
        refine next_in ?_
        refine ret_in ?_
        refine blockK_ret ?_
        refine thenK_ret ?_
        refine thenK_ret ?_
        refine blockK_ret ?_
        refine thenK_ret ?_
        have h := Option.some.inj h; subst h
        exact ret1_step (v := (.d (.b false))) (by kernel_rfl) (by kernel_rfl) (by kernel_rfl)
      · clear h; intro h
        refine skip_in ?_
        refine blockK_norm ?_
        refine next_in ?_
        refine ops_in ?_
        refine sts_ok 3 (s' := ⟨(5, (.d (.i .i64 (IntKind.wrap .i64 (x5 + 1))))) :: (16, (.d (.i .i64 (IntKind.wrap .i64 (x5 + 1))))) :: (15, (.d (.i .i64 x5))) :: (26, (.d (.b (!y3)))) :: (25, (.d (.b y3))) :: (24, (vGTable y2)) :: (23, (.rp [(.s (bs y2.name)), (.sl 2 (y2.cols.map cGCol))])) :: (22, (.d (.i .i64 x5))) :: (21, (.d (.sl 2 (p1.map cGTable)))) :: (20, (vGTable y1)) :: (19, (.rp [(.s (bs y1.name)), (.sl 2 (y1.cols.map cGCol))])) :: (18, (.d (.i .i64 x5))) :: (17, (.d (.sl 2 (p0.map cGTable)))) :: (14, (.d (.b (decide (x5 < (p0.length : Int)))))) :: (13, (.d (.i .i64 (p0.length : Int)))) :: (12, (.d (.sl 2 (p0.map cGTable)))) :: (11, (.d (.i .i64 x5))) :: (stwEqTableS_L0 p0 p1 x5).env, (stwEqTableS_L0 p0 p1 x5).bx⟩) (by kernel_rfl) ?_
        refine nil_in ?_
        exact loop_back (s' := stwEqTableS_L0 p0 p1 (IntKind.wrap .i64 (x5 + 1))) (wk_ren [] (by kernel_rfl) (er_cons (vr_same (by kernel_rfl) (by kernel_rfl)) (er_cons (vr_same (by kernel_rfl) (by kernel_rfl)) (er_cons (vr_same (by kernel_rfl) (by kernel_rfl)) (er_nil)))) (br_nil)) (OK_wEqTableS_L0 (IntKind.wrap .i64 (x5 + 1)) _ h)
    · clear h; intro h
      refine exit_in ?_
      refine thenK_exit ?_
      refine thenK_exit ?_
      refine blockK_here ?_
      refine next_in ?_
      refine seq_in ?_
      refine ops_in ?_
      refine sts_ok 1 (s' := ⟨(4, (.d (.b true))) :: (14, (.d (.b (decide (x5 < (p0.length : Int)))))) :: (13, (.d (.i .i64 (p0.length : Int)))) :: (12, (.d (.sl 2 (p0.map cGTable)))) :: (11, (.d (.i .i64 x5))) :: (stwEqTableS_L0 p0 p1 x5).env, (stwEqTableS_L0 p0 p1 x5).bx⟩) (by kernel_rfl) ?_
      refine nil_in ?_
      refine next_in ?_
      refine ret_in ?_
      have h := Option.some.inj h; subst h
      exact ret1_step (v := (.d (.b true))) (by kernel_rfl) (by kernel_rfl) (by kernel_rfl)
theorem OK_wEqTableS_L0 (p0 : (List GTable)) (p1 : (List GTable)) (x5 : Int) (r : Bool) (h : wEqTableS_L0 p0 p1 x5 = some r) : avc Try.prog acwEqTableS_L0 (qwEqTableS_1 r) (stwEqTableS_L0 p0 p1 x5) := (OKs_wEqTableS_L0 p0 p1) x5 r h
theorem OK_wEqTableS (p0 : (List GTable)) (p1 : (List GTable)) : FOk Try.prog 92 [(.d (.sl 2 (p0.map cGTable))), (.d (.sl 2 (p1.map cGTable)))] (fun y => (.d (.b y))) (wEqTableS p0 p1) := by
  intro r h
  rw [wEqTableS] at h
  refine acalls_of_fn trwEqTableS (Nat.le_of_ble_eq_true rfl) (by simp) ?_
  show avc Try.prog acwEqTableS (qwEqTableS _) ⟨[(0, (.d (.sl 2 (p0.map cGTable)))), (1, (.d (.sl 2 (p1.map cGTable))))], []⟩
  delta acwEqTableS
  refine seq_in ?_
  refine ops_in ?_
  refine sts_ok 1 (s' := ⟨[(4, (.d (.b false))), (0, (.d (.sl 2 (p0.map cGTable)))), (1, (.d (.sl 2 (p1.map cGTable))))], []⟩) (by kernel_rfl) ?_
  refine nil_in ?_
  refine next_in ?_
  refine seq_in ?_
  refine seq_in ?_
  refine ops_in ?_
  refine sts_ok 1 (s' := ⟨[(6, (.d (.sl 2 (p0.map cGTable)))), (4, (.d (.b false))), (0, (.d (.sl 2 (p0.map cGTable)))), (1, (.d (.sl 2 (p1.map cGTable))))], []⟩) (by kernel_rfl) ?_
  refine p_step (v' := (.d (.i .i64 (p0.length : Int)))) rfl rfl (vop_len (sz := 2) (l := p0) (f := cGTable) (by kernel_rfl) (by kernel_rfl)) ?_
  refine sts_ok 1 (s' := ⟨[(8, (.d (.sl 2 (p1.map cGTable)))), (7, (.d (.i .i64 (p0.length : Int)))), (6, (.d (.sl 2 (p0.map cGTable)))), (4, (.d (.b false))), (0, (.d (.sl 2 (p0.map cGTable)))), (1, (.d (.sl 2 (p1.map cGTable))))], []⟩) (by kernel_rfl) ?_
  refine p_step (v' := (.d (.i .i64 (p1.length : Int)))) rfl rfl (vop_len (sz := 2) (l := p1) (f := cGTable) (by kernel_rfl) (by kernel_rfl)) ?_
  refine sts_ok 1 (s' := ⟨[(10, (.d (.b (!decide ((p0.length : Int) = (p1.length : Int)))))), (9, (.d (.i .i64 (p1.length : Int)))), (8, (.d (.sl 2 (p1.map cGTable)))), (7, (.d (.i .i64 (p0.length : Int)))), (6, (.d (.sl 2 (p0.map cGTable)))), (4, (.d (.b false))), (0, (.d (.sl 2 (p0.map cGTable)))), (1, (.d (.sl 2 (p1.map cGTable))))], []⟩) (by kernel_rfl) ?_
  refine nil_in ?_
  refine next_in ?_
  refine cond_step h (by kernel_rfl) ?_ ?_
  · clear h; intro h
    refine seq_in ?_
    refine ops_in ?_
    refine sts_ok 1 (s' := ⟨[(4, (.d (.b false))), (10, (.d (.b (!decide ((p0.length : Int) = (p1.length : Int)))))), (9, (.d (.i .i64 (p1.length : Int)))), (8, (.d (.sl 2 (p1.map cGTable)))), (7, (.d (.i .i64 (p0.length : Int)))), (6, (.d (.sl 2 (p0.map cGTable)))), (4, (.d (.b false))), (0, (.d (.sl 2 (p0.map cGTable)))), (1, (.d (.sl 2 (p1.map cGTable))))], []⟩) (by kernel_rfl) ?_
    refine nil_in ?_
    refine next_in ?_
    refine ret_in ?_
    refine thenK_ret ?_
    have h := Option.some.inj h; subst h
    exact ret1_step (v := (.d (.b false))) (by kernel_rfl) (by kernel_rfl) (by kernel_rfl)
  · clear h; intro h
    refine skip_in ?_
    refine next_in ?_
    refine seq_in ?_
    refine seq_in ?_
    refine ops_in ?_
    refine sts_ok 1 (s' := ⟨[(5, (.d (.i .i64 0))), (10, (.d (.b (!decide ((p0.length : Int) = (p1.length : Int)))))), (9, (.d (.i .i64 (p1.length : Int)))), (8, (.d (.sl 2 (p1.map cGTable)))), (7, (.d (.i .i64 (p0.length : Int)))), (6, (.d (.sl 2 (p0.map cGTable)))), (4, (.d (.b false))), (0, (.d (.sl 2 (p0.map cGTable)))), (1, (.d (.sl 2 (p1.map cGTable))))], []⟩) (by kernel_rfl) ?_
    refine nil_in ?_
    refine next_in ?_
    refine block_in ?_
    exact loop_go (s' := stwEqTableS_L0 p0 p1 0) (wk_ren [] (by kernel_rfl) (er_cons (vr_same (by kernel_rfl) (by kernel_rfl)) (er_cons (vr_same (by kernel_rfl) (by kernel_rfl)) (er_cons (vr_same (by kernel_rfl) (by kernel_rfl)) (er_nil)))) (br_nil)) (OK_wEqTableS_L0 p0 p1 0 _ h)
theorem OK_wEqCatalog (p0 : GCatalog) (p1 : GCatalog) : FOk Try.prog 45 [(vGCatalog p0), (vGCatalog p1)] (fun y => (.d (.b y))) (wEqCatalog p0 p1) := by
  intro r h
  rw [wEqCatalog] at h
  refine acalls_of_fn trwEqCatalog (Nat.le_of_ble_eq_true rfl) (by simp) ?_
  show avc Try.prog acwEqCatalog (qwEqCatalog _) ⟨[(0, (vGCatalog p0)), (1, (vGCatalog p1))], []⟩
  delta acwEqCatalog
  refine seq_in ?_
  refine ops_in ?_
  refine sts_ok 3 (s' := ⟨[(4, (.d (.b false))), (3, (.ptr 3 0)), (2, (.ptr 2 0)), (0, (vGCatalog p0)), (1, (vGCatalog p1))], [(3, [(.d (.sl 2 (p1.tables.map cGTable)))]), (2, [(.d (.sl 2 (p0.tables.map cGTable)))])]⟩) (by kernel_rfl) ?_
  refine nil_in ?_
  refine next_in ?_
  refine seq_in ?_
  refine seq_in ?_
  refine ops_in ?_
  refine sts_ok 4 (s' := ⟨[(8, (.d (.sl 2 (p1.tables.map cGTable)))), (7, (.ptr 3 0)), (6, (.d (.sl 2 (p0.tables.map cGTable)))), (5, (.ptr 2 0)), (4, (.d (.b false))), (3, (.ptr 3 0)), (2, (.ptr 2 0)), (0, (vGCatalog p0)), (1, (vGCatalog p1))], [(3, [(.d (.sl 2 (p1.tables.map cGTable)))]), (2, [(.d (.sl 2 (p0.tables.map cGTable)))])]⟩) (by kernel_rfl) ?_
  refine call_step (m := wEqTableS p0.tables p1.tables) (args := [(.d (.sl 2 (p0.tables.map cGTable))), (.d (.sl 2 (p1.tables.map cGTable)))]) (v' := (fun y => (.d (.b y)))) h (OK_wEqTableS p0.tables p1.tables) (by kernel_rfl) (by kernel_rfl) (fun _ => rfl) ?_
  clear h; intro y1 h
  refine sts_ok 1 (s' := ⟨[(10, (.d (.b (!y1)))), (9, (.d (.b y1))), (8, (.d (.sl 2 (p1.tables.map cGTable)))), (7, (.ptr 3 0)), (6, (.d (.sl 2 (p0.tables.map cGTable)))), (5, (.ptr 2 0)), (4, (.d (.b false))), (3, (.ptr 3 0)), (2, (.ptr 2 0)), (0, (vGCatalog p0)), (1, (vGCatalog p1))], [(3, [(.d (.sl 2 (p1.tables.map cGTable)))]), (2, [(.d (.sl 2 (p0.tables.map cGTable)))])]⟩) (by kernel_rfl) ?_
  refine nil_in ?_
  refine next_in ?_
  refine cond_step h (by kernel_rfl) ?_ ?_
  · clear h; intro h
    refine seq_in ?_
    refine ops_in ?_
    refine sts_ok 1 (s' := ⟨[(4, (.d (.b false))), (10, (.d (.b (!y1)))), (9, (.d (.b y1))), (8, (.d (.sl 2 (p1.tables.map cGTable)))), (7, (.ptr 3 0)), (6, (.d (.sl 2 (p0.tables.map cGTable)))), (5, (.ptr 2 0)), (4, (.d (.b false))), (3, (.ptr 3 0)), (2, (.ptr 2 0)), (0, (vGCatalog p0)), (1, (vGCatalog p1))], [(3, [(.d (.sl 2 (p1.tables.map cGTable)))]), (2, [(.d (.sl 2 (p0.tables.map cGTable)))])]⟩) (by kernel_rfl) ?_
    refine nil_in ?_
    refine next_in ?_
    refine ret_in ?_
    refine thenK_ret ?_
    have h := Option.some.inj h; subst h
    exact ret1_step (v := (.d (.b false))) (by kernel_rfl) (by kernel_rfl) (by kernel_rfl)
  · clear h; intro h
    refine skip_in ?_
    refine next_in ?_
    refine seq_in ?_
    refine ops_in ?_
    refine sts_ok 1 (s' := ⟨[(4, (.d (.b true))), (10, (.d (.b (!y1)))), (9, (.d (.b y1))), (8, (.d (.sl 2 (p1.tables.map cGTable)))), (7, (.ptr 3 0)), (6, (.d (.sl 2 (p0.tables.map cGTable)))), (5, (.ptr 2 0)), (4, (.d (.b false))), (3, (.ptr 3 0)), (2, (.ptr 2 0)), (0, (vGCatalog p0)), (1, (vGCatalog p1))], [(3, [(.d (.sl 2 (p1.tables.map cGTable)))]), (2, [(.d (.sl 2 (p0.tables.map cGTable)))])]⟩) (by kernel_rfl) ?_
    refine nil_in ?_
    refine next_in ?_
    refine ret_in ?_
    have h := Option.some.inj h; subst h
    exact ret1_step (v := (.d (.b true))) (by kernel_rfl) (by kernel_rfl) (by kernel_rfl)
theorem OK_wEqValue (p0 : GValue) (p1 : GValue) : FOk Try.prog 25 [(vGValue p0), (vGValue p1)] (fun y => (.d (.b y))) (wEqValue p0 p1) := by
  intro r h
  rw [wEqValue] at h
  refine acalls_of_fn trwEqValue (Nat.le_of_ble_eq_true rfl) (by simp) ?_
  show avc Try.prog acwEqValue (qwEqValue _) ⟨[(0, (vGValue p0)), (1, (vGValue p1))], []⟩
  delta acwEqValue
  refine seq_in ?_
  refine ops_in ?_
  refine sts_ok 3 (s' := ⟨[(4, (.d (.b false))), (3, (.ptr 3 0)), (2, (.ptr 2 0)), (0, (vGValue p0)), (1, (vGValue p1))], [(3, [(.d (.i .i64 p1.kind)), (.d (.i .i64 p1.num)), (.d (.s (bs p1.text)))]), (2, [(.d (.i .i64 p0.kind)), (.d (.i .i64 p0.num)), (.d (.s (bs p0.text)))])]⟩) (by kernel_rfl) ?_
  refine nil_in ?_
  refine next_in ?_
  refine seq_in ?_
  refine seq_in ?_
  refine ops_in ?_
  refine sts_ok 5 (s' := ⟨[(9, (.d (.b (!decide (p0.kind = p1.kind))))), (8, (.d (.i .i64 p1.kind))), (7, (.ptr 3 0)), (6, (.d (.i .i64 p0.kind))), (5, (.ptr 2 0)), (4, (.d (.b false))), (3, (.ptr 3 0)), (2, (.ptr 2 0)), (0, (vGValue p0)), (1, (vGValue p1))], [(3, [(.d (.i .i64 p1.kind)), (.d (.i .i64 p1.num)), (.d (.s (bs p1.text)))]), (2, [(.d (.i .i64 p0.kind)), (.d (.i .i64 p0.num)), (.d (.s (bs p0.text)))])]⟩) (by kernel_rfl) ?_
  refine nil_in ?_
  refine next_in ?_
  refine cond_step h (by kernel_rfl) ?_ ?_
  · clear h; intro h
    refine seq_in ?_
    refine ops_in ?_
    refine sts_ok 1 (s' := ⟨[(4, (.d (.b false))), (9, (.d (.b (!decide (p0.kind = p1.kind))))), (8, (.d (.i .i64 p1.kind))), (7, (.ptr 3 0)), (6, (.d (.i .i64 p0.kind))), (5, (.ptr 2 0)), (4, (.d (.b false))), (3, (.ptr 3 0)), (2, (.ptr 2 0)), (0, (vGValue p0)), (1, (vGValue p1))], [(3, [(.d (.i .i64 p1.kind)), (.d (.i .i64 p1.num)), (.d (.s (bs p1.text)))]), (2, [(.d (.i .i64 p0.kind)), (.d (.i .i64 p0.num)), (.d (.s (bs p0.text)))])]⟩) (by kernel_rfl) ?_
    refine nil_in ?_
    refine next_in ?_
    refine ret_in ?_
    refine thenK_ret ?_
    have h := Option.some.inj h; subst h
    exact ret1_step (v := (.d (.b false))) (by kernel_rfl) (by kernel_rfl) (by kernel_rfl)
  · clear h; intro h
    refine skip_in ?_
    refine next_in ?_
    refine seq_in ?_
    refine seq_in ?_
    refine ops_in ?_
    refine sts_ok 5 (s' := ⟨[(14, (.d (.b (!decide (p0.num = p1.num))))), (13, (.d (.i .i64 p1.num))), (12, (.ptr 3 1)), (11, (.d (.i .i64 p0.num))), (10, (.ptr 2 1)), (9, (.d (.b (!decide (p0.kind = p1.kind))))), (8, (.d (.i .i64 p1.kind))), (7, (.ptr 3 0)), (6, (.d (.i .i64 p0.kind))), (5, (.ptr 2 0)), (4, (.d (.b false))), (3, (.ptr 3 0)), (2, (.ptr 2 0)), (0, (vGValue p0)), (1, (vGValue p1))], [(3, [(.d (.i .i64 p1.kind)), (.d (.i .i64 p1.num)), (.d (.s (bs p1.text)))]), (2, [(.d (.i .i64 p0.kind)), (.d (.i .i64 p0.num)), (.d (.s (bs p0.text)))])]⟩) (by kernel_rfl) ?_
    refine nil_in ?_
    refine next_in ?_
    refine cond_step h (by kernel_rfl) ?_ ?_
    · clear h; intro h
      refine seq_in ?_
      refine ops_in ?_
      refine sts_ok 1 (s' := ⟨[(4, (.d (.b false))), (14, (.d (.b (!decide (p0.num = p1.num))))), (13, (.d (.i .i64 p1.num))), (12, (.ptr 3 1)), (11, (.d (.i .i64 p0.num))), (10, (.ptr 2 1)), (9, (.d (.b (!decide (p0.kind = p1.kind))))), (8, (.d (.i .i64 p1.kind))), (7, (.ptr 3 0)), (6, (.d (.i .i64 p0.kind))), (5, (.ptr 2 0)), (4, (.d (.b false))), (3, (.ptr 3 0)), (2, (.ptr 2 0)), (0, (vGValue p0)), (1, (vGValue p1))], [(3, [(.d (.i .i64 p1.kind)), (.d (.i .i64 p1.num)), (.d (.s (bs p1.text)))]), (2, [(.d (.i .i64 p0.kind)), (.d (.i .i64 p0.num)), (.d (.s (bs p0.text)))])]⟩) (by kernel_rfl) ?_
      refine nil_in ?_
      refine next_in ?_
      refine ret_in ?_
      refine thenK_ret ?_
      have h := Option.some.inj h; subst h
      exact ret1_step (v := (.d (.b false))) (by kernel_rfl) (by kernel_rfl) (by kernel_rfl)
    · clear h; intro h
      refine skip_in ?_
      refine next_in ?_
      refine seq_in ?_
      refine seq_in ?_
      refine ops_in ?_
      refine sts_ok 5 (s' := ⟨[(19, (.d (.b (!decide (p0.text = p1.text))))), (18, (.d (.s (bs p1.text)))), (17, (.ptr 3 2)), (16, (.d (.s (bs p0.text)))), (15, (.ptr 2 2)), (14, (.d (.b (!decide (p0.num = p1.num))))), (13, (.d (.i .i64 p1.num))), (12, (.ptr 3 1)), (11, (.d (.i .i64 p0.num))), (10, (.ptr 2 1)), (9, (.d (.b (!decide (p0.kind = p1.kind))))), (8, (.d (.i .i64 p1.kind))), (7, (.ptr 3 0)), (6, (.d (.i .i64 p0.kind))), (5, (.ptr 2 0)), (4, (.d (.b false))), (3, (.ptr 3 0)), (2, (.ptr 2 0)), (0, (vGValue p0)), (1, (vGValue p1))], [(3, [(.d (.i .i64 p1.kind)), (.d (.i .i64 p1.num)), (.d (.s (bs p1.text)))]), (2, [(.d (.i .i64 p0.kind)), (.d (.i .i64 p0.num)), (.d (.s (bs p0.text)))])]⟩) (by kernel_rfl) ?_
      refine nil_in ?_
      refine next_in ?_
      refine cond_step h (by kernel_rfl) ?_ ?_
      · clear h; intro h
        refine seq_in ?_
        refine ops_in ?_
        refine sts_ok 1 (s' := ⟨[(4, (.d (.b false))), (19, (.d (.b (!decide (p0.text = p1.text))))), (18, (.d (.s (bs p1.text)))), (17, (.ptr 3 2)), (16, (.d (.s (bs p0.text)))), (15, (.ptr 2 2)), (14, (.d (.b (!decide (p0.num = p1.num))))), (13, (.d (.i .i64 p1.num))), (12, (.ptr 3 1)), (11, (.d (.i .i64 p0.num))), (10, (.ptr 2 1)), (9, (.d (.b (!decide (p0.kind = p1.kind))))), (8, (.d (.i .i64 p1.kind))), (7, (.ptr 3 0)), (6, (.d (.i .i64 p0.kind))), (5, (.ptr 2 0)), (4, (.d (.b false))), (3, (.ptr 3 0)), (2, (.ptr 2 0)), (0, (vGValue p0)), (1, (vGValue p1))], [(3, [(.d (.i .i64 p1.kind)), (.d (.i .i64 p1.num)), (.d (.s (bs p1.text)))]), (2, [(.d (.i .i64 p0.kind)), (.d (.i .i64 p0.num)), (.d (.s (bs p0.text)))])]⟩) (by kernel_rfl) ?_
        refine nil_in ?_
        refine next_in ?_
        refine ret_in ?_
        refine thenK_ret ?_
        have h := Option.some.inj h; subst h
        exact ret1_step (v := (.d (.b false))) (by kernel_rfl) (by kernel_rfl) (by kernel_rfl)
      · clear h; intro h
        refine skip_in ?_
        refine next_in ?_
        refine seq_in ?_
        refine ops_in ?_
        refine sts_ok 1 (s' := ⟨[(4, (.d (.b true))), (19, (.d (.b (!decide (p0.text = p1.text))))), (18, (.d (.s (bs p1.text)))), (17, (.ptr 3 2)), (16, (.d (.s (bs p0.text)))), (15, (.ptr 2 2)), (14, (.d (.b (!decide (p0.num = p1.num))))), (13, (.d (.i .i64 p1.num))), (12, (.ptr 3 1)), (11, (.d (.i .i64 p0.num))), (10, (.ptr 2 1)), (9, (.d (.b (!decide (p0.kind = p1.kind))))), (8, (.d (.i .i64 p1.kind))), (7, (.ptr 3 0)), (6, (.d (.i .i64 p0.kind))), (5, (.ptr 2 0)), (4, (.d (.b false))), (3, (.ptr 3 0)), (2, (.ptr 2 0)), (0, (vGValue p0)), (1, (vGValue p1))], [(3, [(.d (.i .i64 p1.kind)), (.d (.i .i64 p1.num)), (.d (.s (bs p1.text)))]), (2, [(.d (.i .i64 p0.kind)), (.d (.i .i64 p0.num)), (.d (.s (bs p0.text)))])]⟩) (by kernel_rfl) ?_
        refine nil_in ?_
        refine next_in ?_
        refine ret_in ?_
        have h := Option.some.inj h; subst h
        exact ret1_step (v := (.d (.b true))) (by kernel_rfl) (by kernel_rfl) (by kernel_rfl)
theorem OKs_wEqValueS_L0 (p0 : (List GValue)) (p1 : (List GValue)) : (∀ (x5 : Int) (r : Bool), wEqValueS_L0 p0 p1 x5 = some r → avc Try.prog acwEqValueS_L0 (qwEqValueS_1 r) (stwEqValueS_L0 p0 p1 x5)) := by
  refine wEqValueS_L0.partial_correctness p0 p1 (fun x5 r => avc Try.prog acwEqValueS_L0 (qwEqValueS_1 r) (stwEqValueS_L0 p0 p1 x5)) ?_
  · intro F_wEqValueS_L0 OK_wEqValueS_L0 x5 r h
    delta acwEqValueS_L0
    refine loop_unroll ?_
    refine seq_in ?_
    refine seq_in ?_
    refine ops_in ?_
    refine sts_ok 2 (s' := ⟨(12, (.d (.sl 3 (p0.map cGValue)))) :: (11, (.d (.i .i64 x5))) :: (stwEqValueS_L0 p0 p1 x5).env, (stwEqValueS_L0 p0 p1 x5).bx⟩) (by kernel_rfl) ?_
    refine p_step (v' := (.d (.i .i64 (p0.length : Int)))) rfl rfl (vop_len (sz := 3) (l := p0) (f := cGValue) (by kernel_rfl) (by kernel_rfl)) ?_
    refine sts_ok 1 (s' := ⟨(14, (.d (.b (decide (x5 < (p0.length : Int)))))) :: (13, (.d (.i .i64 (p0.length : Int)))) :: (12, (.d (.sl 3 (p0.map cGValue)))) :: (11, (.d (.i .i64 x5))) :: (stwEqValueS_L0 p0 p1 x5).env, (stwEqValueS_L0 p0 p1 x5).bx⟩) (by kernel_rfl) ?_
    refine nil_in ?_
    refine next_in ?_
    refine cond_step h (by kernel_rfl) ?_ ?_
    · clear h; intro h
      refine skip_in ?_
      refine next_in ?_
      refine seq_in ?_
      refine block_in ?_
      refine seq_in ?_
      refine dops_in ?_
      refine dsts_ok 2 (s' := ⟨(18, (.d (.i .i64 x5))) :: (17, (.d (.sl 3 (p0.map cGValue)))) :: (14, (.d (.b (decide (x5 < (p0.length : Int)))))) :: (13, (.d (.i .i64 (p0.length : Int)))) :: (12, (.d (.sl 3 (p0.map cGValue)))) :: (11, (.d (.i .i64 x5))) :: (stwEqValueS_L0 p0 p1 x5).env, (stwEqValueS_L0 p0 p1 x5).bx⟩) (by kernel_rfl) ?_
      refine dv_step (m := idx p0 x5) (v' := fun y => (.rp [(.i .i64 y.kind), (.i .i64 y.num), (.s (bs y.text))])) h rfl rfl (fun y hy => vop_ia (l := p0) (f := cGValue) (g := cGValue) (k := .i64) hy (fun _ => rfl) (by kernel_rfl) (by kernel_rfl) (by kernel_rfl)) ?_
      clear h; intro y1 h
      refine dsts_ok 3 (s' := ⟨(22, (.d (.i .i64 x5))) :: (21, (.d (.sl 3 (p1.map cGValue)))) :: (20, (vGValue y1)) :: (19, (.rp [(.i .i64 y1.kind), (.i .i64 y1.num), (.s (bs y1.text))])) :: (18, (.d (.i .i64 x5))) :: (17, (.d (.sl 3 (p0.map cGValue)))) :: (14, (.d (.b (decide (x5 < (p0.length : Int)))))) :: (13, (.d (.i .i64 (p0.length : Int)))) :: (12, (.d (.sl 3 (p0.map cGValue)))) :: (11, (.d (.i .i64 x5))) :: (stwEqValueS_L0 p0 p1 x5).env, (stwEqValueS_L0 p0 p1 x5).bx⟩) (by kernel_rfl) ?_
      refine dv_step (m := idx p1 x5) (v' := fun y => (.rp [(.i .i64 y.kind), (.i .i64 y.num), (.s (bs y.text))])) h rfl rfl (fun y hy => vop_ia (l := p1) (f := cGValue) (g := cGValue) (k := .i64) hy (fun _ => rfl) (by kernel_rfl) (by kernel_rfl) (by kernel_rfl)) ?_
      clear h; intro y2 h
      refine dsts_ok 1 (s' := ⟨(24, (vGValue y2)) :: (23, (.rp [(.i .i64 y2.kind), (.i .i64 y2.num), (.s (bs y2.text))])) :: (22, (.d (.i .i64 x5))) :: (21, (.d (.sl 3 (p1.map cGValue)))) :: (20, (vGValue y1)) :: (19, (.rp [(.i .i64 y1.kind), (.i .i64 y1.num), (.s (bs y1.text))])) :: (18, (.d (.i .i64 x5))) :: (17, (.d (.sl 3 (p0.map cGValue)))) :: (14, (.d (.b (decide (x5 < (p0.length : Int)))))) :: (13, (.d (.i .i64 (p0.length : Int)))) :: (12, (.d (.sl 3 (p0.map cGValue)))) :: (11, (.d (.i .i64 x5))) :: (stwEqValueS_L0 p0 p1 x5).env, (stwEqValueS_L0 p0 p1 x5).bx⟩) (by kernel_rfl) ?_
      refine dcall_step (m := wEqValue y1 y2) (args := [(vGValue y1), (vGValue y2)]) (v' := (fun y => (.d (.b y)))) h (OK_wEqValue y1 y2) (by kernel_rfl) (by kernel_rfl) (fun _ => rfl) ?_
      clear h; intro y3 h
      refine dsts_ok 1 (s' := ⟨(26, (.d (.b (!y3)))) :: (25, (.d (.b y3))) :: (24, (vGValue y2)) :: (23, (.rp [(.i .i64 y2.kind), (.i .i64 y2.num), (.s (bs y2.text))])) :: (22, (.d (.i .i64 x5))) :: (21, (.d (.sl 3 (p1.map cGValue)))) :: (20, (vGValue y1)) :: (19, (.rp [(.i .i64 y1.kind), (.i .i64 y1.num), (.s (bs y1.text))])) :: (18, (.d (.i .i64 x5))) :: (17, (.d (.sl 3 (p0.map cGValue)))) :: (14, (.d (.b (decide (x5 < (p0.length : Int)))))) :: (13, (.d (.i .i64 (p0.length : Int)))) :: (12, (.d (.sl 3 (p0.map cGValue)))) :: (11, (.d (.i .i64 x5))) :: (stwEqValueS_L0 p0 p1 x5).env, (stwEqValueS_L0 p0 p1 x5).bx⟩) (by kernel_rfl) ?_
      refine dnil_in (by kernel_rfl) (by kernel_rfl) ?_
      refine next_in ?_
      refine cond_step h (by kernel_rfl) ?_ ?_
      · clear h; intro h
        refine seq_in ?_
        refine ops_in ?_
        refine sts_ok 1 (s' := ⟨(4, (.d (.b false))) :: (26, (.d (.b (!y3)))) :: (25, (.d (.b y3))) :: (24, (vGValue y2)) :: (23, (.rp [(.i .i64 y2.kind), (.i .i64 y2.num), (.s (bs y2.text))])) :: (22, (.d (.i .i64 x5))) :: (21, (.d (.sl 3 (p1.map cGValue)))) :: (20, (vGValue y1)) :: (19, (.rp [(.i .i64 y1.kind), (.i .i64 y1.num), (.s (bs y1.text))])) :: (18, (.d (.i .i64 x5))) :: (17, (.d (.sl 3 (p0.map cGValue)))) :: (14, (.d (.b (decide (x5 < (p0.length : Int)))))) :: (13, (.d (.i .i64 (p0.length : Int)))) :: (12, (.d (.sl 3 (p0.map cGValue)))) :: (11, (.d (.i .i64 x5))) :: (stwEqValueS_L0 p0 p1 x5).env, (stwEqValueS_L0 p0 p1 x5).bx⟩) (by kernel_rfl) ?_
        refine nil_in ?_
        refine next_in ?_
        refine ret_in ?_
        refine blockK_ret ?_
        refine thenK_ret ?_
        refine thenK_ret ?_
        refine blockK_ret ?_
        refine thenK_ret ?_
        have h := Option.some.inj h; subst h
        exact ret1_step (v := (.d (.b false))) (by kernel_rfl) (by kernel_rfl) (by kernel_rfl)
      · clear h; intro h
        refine skip_in ?_
        refine blockK_norm ?_
        refine next_in ?_
        refine ops_in ?_
        refine sts_ok 3 (s' := ⟨(5, (.d (.i .i64 (IntKind.wrap .i64 (x5 + 1))))) :: (16, (.d (.i .i64 (IntKind.wrap .i64 (x5 + 1))))) :: (15, (.d (.i .i64 x5))) :: (26, (.d (.b (!y3)))) :: (25, (.d (.b y3))) :: (24, (vGValue y2)) :: (23, (.rp [(.i .i64 y2.kind), (.i .i64 y2.num), (.s (bs y2.text))])) :: (22, (.d (.i .i64 x5))) :: (21, (.d (.sl 3 (p1.map cGValue)))) :: (20, (vGValue y1)) :: (19, (.rp [(.i .i64 y1.kind), (.i .i64 y1.num), (.s (bs y1.text))])) :: (18, (.d (.i .i64 x5))) :: (17, (.d (.sl 3 (p0.map cGValue)))) :: (14, (.d (.b (decide (x5 < (p0.length : Int)))))) :: (13, (.d (.i .i64 (p0.length : Int)))) :: (12, (.d (.sl 3 (p0.map cGValue)))) :: (11, (.d (.i .i64 x5))) :: (stwEqValueS_L0 p0 p1 x5).env, (stwEqValueS_L0 p0 p1 x5).bx⟩) (by kernel_rfl) ?_
        refine nil_in ?_
        exact loop_back (s' := stwEqValueS_L0 p0 p1 (IntKind.wrap .i64 (x5 + 1))) (wk_ren [] (by kernel_rfl) (er_cons (vr_same (by kernel_rfl) (by kernel_rfl)) (er_cons (vr_same (by kernel_rfl) (by kernel_rfl)) (er_cons (vr_same (by kernel_rfl) (by kernel_rfl)) (er_nil)))) (br_nil)) (OK_wEqValueS_L0 (IntKind.wrap .i64 (x5 + 1)) _ h)
    · clear h; intro h
      refine exit_in ?_
      refine thenK_exit ?_
      refine thenK_exit ?_
      refine blockK_here ?_
      refine next_in ?_
      refine seq_in ?_
      refine ops_in ?_
      refine sts_ok 1 (s' := ⟨(4, (.d (.b true))) :: (14, (.d (.b (decide (x5 < (p0.length : Int)))))) :: (13, (.d (.i .i64 (p0.length : Int)))) :: (12, (.d (.sl 3 (p0.map cGValue)))) :: (11, (.d (.i .i64 x5))) :: (stwEqValueS_L0 p0 p1 x5).env, (stwEqValueS_L0 p0 p1 x5).bx⟩) (by kernel_rfl) ?_
      refine nil_in ?_
      refine next_in ?_
      refine ret_in ?_
      have h := Option.some.inj h; subst h
      exact ret1_step (v := (.d (.b true))) (by kernel_rfl) (by kernel_rfl) (by kernel_rfl)
theorem OK_wEqValueS_L0 (p0 : (List GValue)) (p1 : (List GValue)) (x5 : Int) (r : Bool) (h : wEqValueS_L0 p0 p1 x5 = some r) : avc Try.prog acwEqValueS_L0 (qwEqValueS_1 r) (stwEqValueS_L0 p0 p1 x5) := (OKs_wEqValueS_L0 p0 p1) x5 r h
theorem OK_wEqValueS (p0 : (List GValue)) (p1 : (List GValue)) : FOk Try.prog 34 [(.d (.sl 3 (p0.map cGValue))), (.d (.sl 3 (p1.map cGValue)))] (fun y => (.d (.b y))) (wEqValueS p0 p1) := by
  intro r h
  rw [wEqValueS] at h
  refine acalls_of_fn trwEqValueS (Nat.le_of_ble_eq_true rfl) (by simp) ?_
  show avc Try.prog acwEqValueS (qwEqValueS _) ⟨[(0, (.d (.sl 3 (p0.map cGValue)))), (1, (.d (.sl 3 (p1.map cGValue))))], []⟩
  delta acwEqValueS
  refine seq_in ?_
  refine ops_in ?_
  refine sts_ok 1 (s' := ⟨[(4, (.d (.b false))), (0, (.d (.sl 3 (p0.map cGValue)))), (1, (.d (.sl 3 (p1.map cGValue))))], []⟩) (by kernel_rfl) ?_
  refine nil_in ?_
  refine next_in ?_
  refine seq_in ?_
  refine seq_in ?_
  refine ops_in ?_
  refine sts_ok 1 (s' := ⟨[(6, (.d (.sl 3 (p0.map cGValue)))), (4, (.d (.b false))), (0, (.d (.sl 3 (p0.map cGValue)))), (1, (.d (.sl 3 (p1.map cGValue))))], []⟩) (by kernel_rfl) ?_
  refine p_step (v' := (.d (.i .i64 (p0.length : Int)))) rfl rfl (vop_len (sz := 3) (l := p0) (f := cGValue) (by kernel_rfl) (by kernel_rfl)) ?_
  refine sts_ok 1 (s' := ⟨[(8, (.d (.sl 3 (p1.map cGValue)))), (7, (.d (.i .i64 (p0.length : Int)))), (6, (.d (.sl 3 (p0.map cGValue)))), (4, (.d (.b false))), (0, (.d (.sl 3 (p0.map cGValue)))), (1, (.d (.sl 3 (p1.map cGValue))))], []⟩) (by kernel_rfl) ?_
  refine p_step (v' := (.d (.i .i64 (p1.length : Int)))) rfl rfl (vop_len (sz := 3) (l := p1) (f := cGValue) (by kernel_rfl) (by kernel_rfl)) ?_
  refine sts_ok 1 (s' := ⟨[(10, (.d (.b (!decide ((p0.length : Int) = (p1.length : Int)))))), (9, (.d (.i .i64 (p1.length : Int)))), (8, (.d (.sl 3 (p1.map cGValue)))), (7, (.d (.i .i64 (p0.length : Int)))), (6, (.d (.sl 3 (p0.map cGValue)))), (4, (.d (.b false))), (0, (.d (.sl 3 (p0.map cGValue)))), (1, (.d (.sl 3 (p1.map cGValue))))], []⟩) (by kernel_rfl) ?_
  refine nil_in ?_
  refine next_in ?_
  refine cond_step h (by kernel_rfl) ?_ ?_
  · clear h; intro h
    refine seq_in ?_
    refine ops_in ?_
    refine sts_ok 1 (s' := ⟨[(4, (.d (.b false))), (10, (.d (.b (!decide ((p0.length : Int) = (p1.length : Int)))))), (9, (.d (.i .i64 (p1.length : Int)))), (8, (.d (.sl 3 (p1.map cGValue)))), (7, (.d (.i .i64 (p0.length : Int)))), (6, (.d (.sl 3 (p0.map cGValue)))), (4, (.d (.b false))), (0, (.d (.sl 3 (p0.map cGValue)))), (1, (.d (.sl 3 (p1.map cGValue))))], []⟩) (by kernel_rfl) ?_
    refine nil_in ?_
    refine next_in ?_
    refine ret_in ?_
    refine thenK_ret ?_
    have h := Option.some.inj h; subst h
    exact ret1_step (v := (.d (.b false))) (by kernel_rfl) (by kernel_rfl) (by kernel_rfl)
  · clear h; intro h
    refine skip_in ?_
    refine next_in ?_
    refine seq_in ?_
    refine seq_in ?_
    refine ops_in ?_
    refine sts_ok 1 (s' := ⟨[(5, (.d (.i .i64 0))), (10, (.d (.b (!decide ((p0.length : Int) = (p1.length : Int)))))), (9, (.d (.i .i64 (p1.length : Int)))), (8, (.d (.sl 3 (p1.map cGValue)))), (7, (.d (.i .i64 (p0.length : Int)))), (6, (.d (.sl 3 (p0.map cGValue)))), (4, (.d (.b false))), (0, (.d (.sl 3 (p0.map cGValue)))), (1, (.d (.sl 3 (p1.map cGValue))))], []⟩) (by kernel_rfl) ?_
    refine nil_in ?_
    refine next_in ?_
    refine block_in ?_
    exact loop_go (s' := stwEqValueS_L0 p0 p1 0) (wk_ren [] (by kernel_rfl) (er_cons (vr_same (by kernel_rfl) (by kernel_rfl)) (er_cons (vr_same (by kernel_rfl) (by kernel_rfl)) (er_cons (vr_same (by kernel_rfl) (by kernel_rfl)) (er_nil)))) (br_nil)) (OK_wEqValueS_L0 p0 p1 0 _ h)
theorem OKs_wEqValueSS_L0 (p0 : (List (List GValue))) (p1 : (List (List GValue))) : (∀ (x5 : Int) (r : Bool), wEqValueSS_L0 p0 p1 x5 = some r → avc Try.prog acwEqValueSS_L0 (qwEqValueSS_1 r) (stwEqValueSS_L0 p0 p1 x5)) := by
  refine wEqValueSS_L0.partial_correctness p0 p1 (fun x5 r => avc Try.prog acwEqValueSS_L0 (qwEqValueSS_1 r) (stwEqValueSS_L0 p0 p1 x5)) ?_
  · intro F_wEqValueSS_L0 OK_wEqValueSS_L0 x5 r h
    delta acwEqValueSS_L0
    refine loop_unroll ?_
    refine seq_in ?_
    refine seq_in ?_
    refine ops_in ?_
    refine sts_ok 2 (s' := ⟨(12, (.d (.sl 1 (p0.map (cSl 3 cGValue))))) :: (11, (.d (.i .i64 x5))) :: (stwEqValueSS_L0 p0 p1 x5).env, (stwEqValueSS_L0 p0 p1 x5).bx⟩) (by kernel_rfl) ?_
    refine p_step (v' := (.d (.i .i64 (p0.length : Int)))) rfl rfl (vop_len (sz := 1) (l := p0) (f := (cSl 3 cGValue)) (by kernel_rfl) (by kernel_rfl)) ?_
    refine sts_ok 1 (s' := ⟨(14, (.d (.b (decide (x5 < (p0.length : Int)))))) :: (13, (.d (.i .i64 (p0.length : Int)))) :: (12, (.d (.sl 1 (p0.map (cSl 3 cGValue))))) :: (11, (.d (.i .i64 x5))) :: (stwEqValueSS_L0 p0 p1 x5).env, (stwEqValueSS_L0 p0 p1 x5).bx⟩) (by kernel_rfl) ?_
    refine nil_in ?_
    refine next_in ?_
    refine cond_step h (by kernel_rfl) ?_ ?_
    · clear h; intro h
      refine skip_in ?_
      refine next_in ?_
      refine seq_in ?_
      refine block_in ?_
      refine seq_in ?_
      refine dops_in ?_
      refine dsts_ok 2 (s' := ⟨(18, (.d (.i .i64 x5))) :: (17, (.d (.sl 1 (p0.map (cSl 3 cGValue))))) :: (14, (.d (.b (decide (x5 < (p0.length : Int)))))) :: (13, (.d (.i .i64 (p0.length : Int)))) :: (12, (.d (.sl 1 (p0.map (cSl 3 cGValue))))) :: (11, (.d (.i .i64 x5))) :: (stwEqValueSS_L0 p0 p1 x5).env, (stwEqValueSS_L0 p0 p1 x5).bx⟩) (by kernel_rfl) ?_
      refine dv_step (m := idx p0 x5) (v' := fun y => (.rp [(.sl 3 (y.map cGValue))])) h rfl rfl (fun y hy => vop_ia (l := p0) (f := (cSl 3 cGValue)) (g := (cSl 3 cGValue)) (k := .i64) hy (fun _ => rfl) (by kernel_rfl) (by kernel_rfl) (by kernel_rfl)) ?_
      clear h; intro y1 h
      refine dsts_ok 3 (s' := ⟨(22, (.d (.i .i64 x5))) :: (21, (.d (.sl 1 (p1.map (cSl 3 cGValue))))) :: (20, (.d (.sl 3 (y1.map cGValue)))) :: (19, (.rp [(.sl 3 (y1.map cGValue))])) :: (18, (.d (.i .i64 x5))) :: (17, (.d (.sl 1 (p0.map (cSl 3 cGValue))))) :: (14, (.d (.b (decide (x5 < (p0.length : Int)))))) :: (13, (.d (.i .i64 (p0.length : Int)))) :: (12, (.d (.sl 1 (p0.map (cSl 3 cGValue))))) :: (11, (.d (.i .i64 x5))) :: (stwEqValueSS_L0 p0 p1 x5).env, (stwEqValueSS_L0 p0 p1 x5).bx⟩) (by kernel_rfl) ?_
      refine dv_step (m := idx p1 x5) (v' := fun y => (.rp [(.sl 3 (y.map cGValue))])) h rfl rfl (fun y hy => vop_ia (l := p1) (f := (cSl 3 cGValue)) (g := (cSl 3 cGValue)) (k := .i64) hy (fun _ => rfl) (by kernel_rfl) (by kernel_rfl) (by kernel_rfl)) ?_
      clear h; intro y2 h
      refine dsts_ok 1 (s' := ⟨(24, (.d (.sl 3 (y2.map cGValue)))) :: (23, (.rp [(.sl 3 (y2.map cGValue))])) :: (22, (.d (.i .i64 x5))) :: (21, (.d (.sl 1 (p1.map (cSl 3 cGValue))))) :: (20, (.d (.sl 3 (y1.map cGValue)))) :: (19, (.rp [(.sl 3 (y1.map cGValue))])) :: (18, (.d (.i .i64 x5))) :: (17, (.d (.sl 1 (p0.map (cSl 3 cGValue))))) :: (14, (.d (.b (decide (x5 < (p0.length : Int)))))) :: (13, (.d (.i .i64 (p0.length : Int)))) :: (12, (.d (.sl 1 (p0.map (cSl 3 cGValue))))) :: (11, (.d (.i .i64 x5))) :: (stwEqValueSS_L0 p0 p1 x5).env, (stwEqValueSS_L0 p0 p1 x5).bx⟩) (by kernel_rfl) ?_
      refine dcall_step (m := wEqValueS y1 y2) (args := [(.d (.sl 3 (y1.map cGValue))), (.d (.sl 3 (y2.map cGValue)))]) (v' := (fun y => (.d (.b y)))) h (OK_wEqValueS y1 y2) (by kernel_rfl) (by kernel_rfl) (fun _ => rfl) ?_
      clear h; intro y3 h
      refine dsts_ok 1 (s' := ⟨(26, (.d (.b (!y3)))) :: (25, (.d (.b y3))) :: (24, (.d (.sl 3 (y2.map cGValue)))) :: (23, (.rp [(.sl 3 (y2.map cGValue))])) :: (22, (.d (.i .i64 x5))) :: (21, (.d (.sl 1 (p1.map (cSl 3 cGValue))))) :: (20, (.d (.sl 3 (y1.map cGValue)))) :: (19, (.rp [(.sl 3 (y1.map cGValue))])) :: (18, (.d (.i .i64 x5))) :: (17, (.d (.sl 1 (p0.map (cSl 3 cGValue))))) :: (14, (.d (.b (decide (x5 < (p0.length : Int)))))) :: (13, (.d (.i .i64 (p0.length : Int)))) :: (12, (.d (.sl 1 (p0.map (cSl 3 cGValue))))) :: (11, (.d (.i .i64 x5))) :: (stwEqValueSS_L0 p0 p1 x5).env, (stwEqValueSS_L0 p0 p1 x5).bx⟩) (by kernel_rfl) ?_
      refine dnil_in (by kernel_rfl) (by kernel_rfl) ?_
      refine next_in ?_
      refine cond_step h (by kernel_rfl) ?_ ?_
      · clear h; intro h
        refine seq_in ?_
        refine ops_in ?_
        refine sts_ok 1 (s' := ⟨(4, (.d (.b false))) :: (26, (.d (.b (!y3)))) :: (25, (.d (.b y3))) :: (24, (.d (.sl 3 (y2.map cGValue)))) :: (23, (.rp [(.sl 3 (y2.map cGValue))])) :: (22, (.d (.i .i64 x5))) :: (21, (.d (.sl 1 (p1.map (cSl 3 cGValue))))) :: (20, (.d (.sl 3 (y1.map cGValue)))) :: (19, (.rp [(.sl 3 (y1.map cGValue))])) :: (18, (.d (.i .i64 x5))) :: (17, (.d (.sl 1 (p0.map (cSl 3 cGValue))))) :: (14, (.d (.b (decide (x5 < (p0.length : Int)))))) :: (13, (.d (.i .i64 (p0.length : Int)))) :: (12, (.d (.sl 1 (p0.map (cSl 3 cGValue))))) :: (11, (.d (.i .i64 x5))) :: (stwEqValueSS_L0 p0 p1 x5).env, (stwEqValueSS_L0 p0 p1 x5).bx⟩) (by kernel_rfl) ?_
        refine nil_in ?_
        refine next_in ?_
        refine ret_in ?_
        refine blockK_ret ?_
        refine thenK_ret ?_
        refine thenK_ret ?_
        refine blockK_ret ?_
        refine thenK_ret ?_
        have h := Option.some.inj h; subst h
        exact ret1_step (v := (.d (.b false))) (by kernel_rfl) (by kernel_rfl) (by kernel_rfl)
      · clear h; intro h
        refine skip_in ?_
        refine blockK_norm ?_
        refine next_in ?_
        refine ops_in ?_
        refine sts_ok 3 (s' := ⟨(5, (.d (.i .i64 (IntKind.wrap .i64 (x5 + 1))))) :: (16, (.d (.i .i64 (IntKind.wrap .i64 (x5 + 1))))) :: (15, (.d (.i .i64 x5))) :: (26, (.d (.b (!y3)))) :: (25, (.d (.b y3))) :: (24, (.d (.sl 3 (y2.map cGValue)))) :: (23, (.rp [(.sl 3 (y2.map cGValue))])) :: (22, (.d (.i .i64 x5))) :: (21, (.d (.sl 1 (p1.map (cSl 3 cGValue))))) :: (20, (.d (.sl 3 (y1.map cGValue)))) :: (19, (.rp [(.sl 3 (y1.map cGValue))])) :: (18, (.d (.i .i64 x5))) :: (17, (.d (.sl 1 (p0.map (cSl 3 cGValue))))) :: (14, (.d (.b (decide (x5 < (p0.length : Int)))))) :: (13, (.d (.i .i64 (p0.length : Int)))) :: (12, (.d (.sl 1 (p0.map (cSl 3 cGValue))))) :: (11, (.d (.i .i64 x5))) :: (stwEqValueSS_L0 p0 p1 x5).env, (stwEqValueSS_L0 p0 p1 x5).bx⟩) (by kernel_rfl) ?_
        refine nil_in ?_
        exact loop_back (s' := stwEqValueSS_L0 p0 p1 (IntKind.wrap .i64 (x5 + 1))) (wk_ren [] (by kernel_rfl) (er_cons (vr_same (by kernel_rfl) (by kernel_rfl)) (er_cons (vr_same (by kernel_rfl) (by kernel_rfl)) (er_cons (vr_same (by kernel_rfl) (by kernel_rfl)) (er_nil)))) (br_nil)) (OK_wEqValueSS_L0 (IntKind.wrap .i64 (x5 + 1)) _ h)
    · clear h; intro h
      refine exit_in ?_
      refine thenK_exit ?_
      refine thenK_exit ?_
      refine blockK_here ?_
      refine next_in ?_
      refine seq_in ?_
      refine ops_in ?_
      refine sts_ok 1 (s' := ⟨(4, (.d (.b true))) :: (14, (.d (.b (decide (x5 < (p0.length : Int)))))) :: (13, (.d (.i .i64 (p0.length : Int)))) :: (12, (.d (.sl 1 (p0.map (cSl 3 cGValue))))) :: (11, (.d (.i .i64 x5))) :: (stwEqValueSS_L0 p0 p1 x5).env, (stwEqValueSS_L0 p0 p1 x5).bx⟩) (by kernel_rfl) ?_
      refine nil_in ?_
      refine next_in ?_
      refine ret_in ?_
      have h := Option.some.inj h; subst h
      exact ret1_step (v := (.d (.b true))) (by kernel_rfl) (by kernel_rfl) (by kernel_rfl)
theorem OK_wEqValueSS_L0 (p0 : (List (List GValue))) (p1 : (List (List GValue))) (x5 : Int) (r : Bool) (h : wEqValueSS_L0 p0 p1 x5 = some r) : avc Try.prog acwEqValueSS_L0 (qwEqValueSS_1 r) (stwEqValueSS_L0 p0 p1 x5) := (OKs_wEqValueSS_L0 p0 p1) x5 r h
theorem OK_wEqValueSS (p0 : (List (List GValue))) (p1 : (List (List GValue))) : FOk Try.prog 204 [(.d (.sl 1 (p0.map (cSl 3 cGValue)))), (.d (.sl 1 (p1.map (cSl 3 cGValue))))] (fun y => (.d (.b y))) (wEqValueSS p0 p1) := by
  intro r h
  rw [wEqValueSS] at h
  refine acalls_of_fn trwEqValueSS (Nat.le_of_ble_eq_true rfl) (by simp) ?_
  show avc Try.prog acwEqValueSS (qwEqValueSS _) ⟨[(0, (.d (.sl 1 (p0.map (cSl 3 cGValue))))), (1, (.d (.sl 1 (p1.map (cSl 3 cGValue)))))], []⟩
  delta acwEqValueSS
  refine seq_in ?_
  refine ops_in ?_
  refine sts_ok 1 (s' := ⟨[(4, (.d (.b false))), (0, (.d (.sl 1 (p0.map (cSl 3 cGValue))))), (1, (.d (.sl 1 (p1.map (cSl 3 cGValue)))))], []⟩) (by kernel_rfl) ?_
  refine nil_in ?_
  refine next_in ?_
  refine seq_in ?_
  refine seq_in ?_
  refine ops_in ?_
  refine sts_ok 1 (s' := ⟨[(6, (.d (.sl 1 (p0.map (cSl 3 cGValue))))), (4, (.d (.b false))), (0, (.d (.sl 1 (p0.map (cSl 3 cGValue))))), (1, (.d (.sl 1 (p1.map (cSl 3 cGValue)))))], []⟩) (by kernel_rfl) ?_
  refine p_step (v' := (.d (.i .i64 (p0.length : Int)))) rfl rfl (vop_len (sz := 1) (l := p0) (f := (cSl 3 cGValue)) (by kernel_rfl) (by kernel_rfl)) ?_
  refine sts_ok 1 (s' := ⟨[(8, (.d (.sl 1 (p1.map (cSl 3 cGValue))))), (7, (.d (.i .i64 (p0.length : Int)))), (6, (.d (.sl 1 (p0.map (cSl 3 cGValue))))), (4, (.d (.b false))), (0, (.d (.sl 1 (p0.map (cSl 3 cGValue))))), (1, (.d (.sl 1 (p1.map (cSl 3 cGValue)))))], []⟩) (by kernel_rfl) ?_
  refine p_step (v' := (.d (.i .i64 (p1.length : Int)))) rfl rfl (vop_len (sz := 1) (l := p1) (f := (cSl 3 cGValue)) (by kernel_rfl) (by kernel_rfl)) ?_
  refine sts_ok 1 (s' := ⟨[(10, (.d (.b (!decide ((p0.length : Int) = (p1.length : Int)))))), (9, (.d (.i .i64 (p1.length : Int)))), (8, (.d (.sl 1 (p1.map (cSl 3 cGValue))))), (7, (.d (.i .i64 (p0.length : Int)))), (6, (.d (.sl 1 (p0.map (cSl 3 cGValue))))), (4, (.d (.b false))), (0, (.d (.sl 1 (p0.map (cSl 3 cGValue))))), (1, (.d (.sl 1 (p1.map (cSl 3 cGValue)))))], []⟩) (by kernel_rfl) ?_
  refine nil_in ?_
  refine next_in ?_
  refine cond_step h (by kernel_rfl) ?_ ?_
  · clear h; intro h
    refine seq_in ?_
    refine ops_in ?_
    refine sts_ok 1 (s' := ⟨[(4, (.d (.b false))), (10, (.d (.b (!decide ((p0.length : Int) = (p1.length : Int)))))), (9, (.d (.i .i64 (p1.length : Int)))), (8, (.d (.sl 1 (p1.map (cSl 3 cGValue))))), (7, (.d (.i .i64 (p0.length : Int)))), (6, (.d (.sl 1 (p0.map (cSl 3 cGValue))))), (4, (.d (.b false))), (0, (.d (.sl 1 (p0.map (cSl 3 cGValue))))), (1, (.d (.sl 1 (p1.map (cSl 3 cGValue)))))], []⟩) (by kernel_rfl) ?_
    refine nil_in ?_
    refine next_in ?_
    refine ret_in ?_
    refine thenK_ret ?_
    have h := Option.some.inj h; subst h
    exact ret1_step (v := (.d (.b false))) (by kernel_rfl) (by kernel_rfl) (by kernel_rfl)
  · clear h; intro h
    refine skip_in ?_
    refine next_in ?_
    refine seq_in ?_
    refine seq_in ?_
    refine ops_in ?_
    refine sts_ok 1 (s' := ⟨[(5, (.d (.i .i64 0))), (10, (.d (.b (!decide ((p0.length : Int) = (p1.length : Int)))))), (9, (.d (.i .i64 (p1.length : Int)))), (8, (.d (.sl 1 (p1.map (cSl 3 cGValue))))), (7, (.d (.i .i64 (p0.length : Int)))), (6, (.d (.sl 1 (p0.map (cSl 3 cGValue))))), (4, (.d (.b false))), (0, (.d (.sl 1 (p0.map (cSl 3 cGValue))))), (1, (.d (.sl 1 (p1.map (cSl 3 cGValue)))))], []⟩) (by kernel_rfl) ?_
    refine nil_in ?_
    refine next_in ?_
    refine block_in ?_
    exact loop_go (s' := stwEqValueSS_L0 p0 p1 0) (wk_ren [] (by kernel_rfl) (er_cons (vr_same (by kernel_rfl) (by kernel_rfl)) (er_cons (vr_same (by kernel_rfl) (by kernel_rfl)) (er_cons (vr_same (by kernel_rfl) (by kernel_rfl)) (er_nil)))) (br_nil)) (OK_wEqValueSS_L0 p0 p1 0 _ h)
theorem OK_wEqData (p0 : GData) (p1 : GData) : FOk Try.prog 166 [(vGData p0), (vGData p1)] (fun y => (.d (.b y))) (wEqData p0 p1) := by
  intro r h
  rw [wEqData] at h
  refine acalls_of_fn trwEqData (Nat.le_of_ble_eq_true rfl) (by simp) ?_
  show avc Try.prog acwEqData (qwEqData _) ⟨[(0, (vGData p0)), (1, (vGData p1))], []⟩
  delta acwEqData
  refine seq_in ?_
  refine ops_in ?_
  refine sts_ok 3 (s' := ⟨[(4, (.d (.b false))), (3, (.ptr 3 0)), (2, (.ptr 2 0)), (0, (vGData p0)), (1, (vGData p1))], [(3, [(.d (.sl 1 (p1.rows.map (cSl 3 cGValue))))]), (2, [(.d (.sl 1 (p0.rows.map (cSl 3 cGValue))))])]⟩) (by kernel_rfl) ?_
  refine nil_in ?_
  refine next_in ?_
  refine seq_in ?_
  refine seq_in ?_
  refine ops_in ?_
  refine sts_ok 4 (s' := ⟨[(8, (.d (.sl 1 (p1.rows.map (cSl 3 cGValue))))), (7, (.ptr 3 0)), (6, (.d (.sl 1 (p0.rows.map (cSl 3 cGValue))))), (5, (.ptr 2 0)), (4, (.d (.b false))), (3, (.ptr 3 0)), (2, (.ptr 2 0)), (0, (vGData p0)), (1, (vGData p1))], [(3, [(.d (.sl 1 (p1.rows.map (cSl 3 cGValue))))]), (2, [(.d (.sl 1 (p0.rows.map (cSl 3 cGValue))))])]⟩) (by kernel_rfl) ?_
  refine call_step (m := wEqValueSS p0.rows p1.rows) (args := [(.d (.sl 1 (p0.rows.map (cSl 3 cGValue)))), (.d (.sl 1 (p1.rows.map (cSl 3 cGValue))))]) (v' := (fun y => (.d (.b y)))) h (OK_wEqValueSS p0.rows p1.rows) (by kernel_rfl) (by kernel_rfl) (fun _ => rfl) ?_
  clear h; intro y1 h
  refine sts_ok 1 (s' := ⟨[(10, (.d (.b (!y1)))), (9, (.d (.b y1))), (8, (.d (.sl 1 (p1.rows.map (cSl 3 cGValue))))), (7, (.ptr 3 0)), (6, (.d (.sl 1 (p0.rows.map (cSl 3 cGValue))))), (5, (.ptr 2 0)), (4, (.d (.b false))), (3, (.ptr 3 0)), (2, (.ptr 2 0)), (0, (vGData p0)), (1, (vGData p1))], [(3, [(.d (.sl 1 (p1.rows.map (cSl 3 cGValue))))]), (2, [(.d (.sl 1 (p0.rows.map (cSl 3 cGValue))))])]⟩) (by kernel_rfl) ?_
  refine nil_in ?_
  refine next_in ?_
  refine cond_step h (by kernel_rfl) ?_ ?_
  · clear h; intro h
    refine seq_in ?_
    refine ops_in ?_
    refine sts_ok 1 (s' := ⟨[(4, (.d (.b false))), (10, (.d (.b (!y1)))), (9, (.d (.b y1))), (8, (.d (.sl 1 (p1.rows.map (cSl 3 cGValue))))), (7, (.ptr 3 0)), (6, (.d (.sl 1 (p0.rows.map (cSl 3 cGValue))))), (5, (.ptr 2 0)), (4, (.d (.b false))), (3, (.ptr 3 0)), (2, (.ptr 2 0)), (0, (vGData p0)), (1, (vGData p1))], [(3, [(.d (.sl 1 (p1.rows.map (cSl 3 cGValue))))]), (2, [(.d (.sl 1 (p0.rows.map (cSl 3 cGValue))))])]⟩) (by kernel_rfl) ?_
    refine nil_in ?_
    refine next_in ?_
    refine ret_in ?_
    refine thenK_ret ?_
    have h := Option.some.inj h; subst h
    exact ret1_step (v := (.d (.b false))) (by kernel_rfl) (by kernel_rfl) (by kernel_rfl)
  · clear h; intro h
    refine skip_in ?_
    refine next_in ?_
    refine seq_in ?_
    refine ops_in ?_
    refine sts_ok 1 (s' := ⟨[(4, (.d (.b true))), (10, (.d (.b (!y1)))), (9, (.d (.b y1))), (8, (.d (.sl 1 (p1.rows.map (cSl 3 cGValue))))), (7, (.ptr 3 0)), (6, (.d (.sl 1 (p0.rows.map (cSl 3 cGValue))))), (5, (.ptr 2 0)), (4, (.d (.b false))), (3, (.ptr 3 0)), (2, (.ptr 2 0)), (0, (vGData p0)), (1, (vGData p1))], [(3, [(.d (.sl 1 (p1.rows.map (cSl 3 cGValue))))]), (2, [(.d (.sl 1 (p0.rows.map (cSl 3 cGValue))))])]⟩) (by kernel_rfl) ?_
    refine nil_in ?_
    refine next_in ?_
    refine ret_in ?_
    have h := Option.some.inj h; subst h
    exact ret1_step (v := (.d (.b true))) (by kernel_rfl) (by kernel_rfl) (by kernel_rfl)
theorem OKs_wEqDataS_L0 (p0 : (List GData)) (p1 : (List GData)) : (∀ (x5 : Int) (r : Bool), wEqDataS_L0 p0 p1 x5 = some r → avc Try.prog acwEqDataS_L0 (qwEqDataS_1 r) (stwEqDataS_L0 p0 p1 x5)) := by
  refine wEqDataS_L0.partial_correctness p0 p1 (fun x5 r => avc Try.prog acwEqDataS_L0 (qwEqDataS_1 r) (stwEqDataS_L0 p0 p1 x5)) ?_
  · intro F_wEqDataS_L0 OK_wEqDataS_L0 x5 r h
    delta acwEqDataS_L0
    refine loop_unroll ?_
    refine seq_in ?_
    refine seq_in ?_
    refine ops_in ?_
    refine sts_ok 2 (s' := ⟨(12, (.d (.sl 1 (p0.map cGData)))) :: (11, (.d (.i .i64 x5))) :: (stwEqDataS_L0 p0 p1 x5).env, (stwEqDataS_L0 p0 p1 x5).bx⟩) (by kernel_rfl) ?_
    refine p_step (v' := (.d (.i .i64 (p0.length : Int)))) rfl rfl (vop_len (sz := 1) (l := p0) (f := cGData) (by kernel_rfl) (by kernel_rfl)) ?_
    refine sts_ok 1 (s' := ⟨(14, (.d (.b (decide (x5 < (p0.length : Int)))))) :: (13, (.d (.i .i64 (p0.length : Int)))) :: (12, (.d (.sl 1 (p0.map cGData)))) :: (11, (.d (.i .i64 x5))) :: (stwEqDataS_L0 p0 p1 x5).env, (stwEqDataS_L0 p0 p1 x5).bx⟩) (by kernel_rfl) ?_
    refine nil_in ?_
    refine next_in ?_
    refine cond_step h (by kernel_rfl) ?_ ?_
    · clear h; intro h
      refine skip_in ?_
      refine next_in ?_
      refine seq_in ?_
      refine block_in ?_
      refine seq_in ?_
      refine dops_in ?_
      refine dsts_ok 2 (s' := ⟨(18, (.d (.i .i64 x5))) :: (17, (.d (.sl 1 (p0.map cGData)))) :: (14, (.d (.b (decide (x5 < (p0.length : Int)))))) :: (13, (.d (.i .i64 (p0.length : Int)))) :: (12, (.d (.sl 1 (p0.map cGData)))) :: (11, (.d (.i .i64 x5))) :: (stwEqDataS_L0 p0 p1 x5).env, (stwEqDataS_L0 p0 p1 x5).bx⟩) (by kernel_rfl) ?_
      refine dv_step (m := idx p0 x5) (v' := fun y => (.rp [(.sl 1 (y.rows.map (cSl 3 cGValue)))])) h rfl rfl (fun y hy => vop_ia (l := p0) (f := cGData) (g := cGData) (k := .i64) hy (fun _ => rfl) (by kernel_rfl) (by kernel_rfl) (by kernel_rfl)) ?_
      clear h; intro y1 h
      refine dsts_ok 3 (s' := ⟨(22, (.d (.i .i64 x5))) :: (21, (.d (.sl 1 (p1.map cGData)))) :: (20, (vGData y1)) :: (19, (.rp [(.sl 1 (y1.rows.map (cSl 3 cGValue)))])) :: (18, (.d (.i .i64 x5))) :: (17, (.d (.sl 1 (p0.map cGData)))) :: (14, (.d (.b (decide (x5 < (p0.length : Int)))))) :: (13, (.d (.i .i64 (p0.length : Int)))) :: (12, (.d (.sl 1 (p0.map cGData)))) :: (11, (.d (.i .i64 x5))) :: (stwEqDataS_L0 p0 p1 x5).env, (stwEqDataS_L0 p0 p1 x5).bx⟩) (by kernel_rfl) ?_
      refine dv_step (m := idx p1 x5) (v' := fun y => (.rp [(.sl 1 (y.rows.map (cSl 3 cGValue)))])) h rfl rfl (fun y hy => vop_ia (l := p1) (f := cGData) (g := cGData) (k := .i64) hy (fun _ => rfl) (by kernel_rfl) (by kernel_rfl) (by kernel_rfl)) ?_
      clear h; intro y2 h
      refine dsts_ok 1 (s' := ⟨(24, (vGData y2)) :: (23, (.rp [(.sl 1 (y2.rows.map (cSl 3 cGValue)))])) :: (22, (.d (.i .i64 x5))) :: (21, (.d (.sl 1 (p1.map cGData)))) :: (20, (vGData y1)) :: (19, (.rp [(.sl 1 (y1.rows.map (cSl 3 cGValue)))])) :: (18, (.d (.i .i64 x5))) :: (17, (.d (.sl 1 (p0.map cGData)))) :: (14, (.d (.b (decide (x5 < (p0.length : Int)))))) :: (13, (.d (.i .i64 (p0.length : Int)))) :: (12, (.d (.sl 1 (p0.map cGData)))) :: (11, (.d (.i .i64 x5))) :: (stwEqDataS_L0 p0 p1 x5).env, (stwEqDataS_L0 p0 p1 x5).bx⟩) (by kernel_rfl) ?_
      refine dcall_step (m := wEqData y1 y2) (args := [(vGData y1), (vGData y2)]) (v' := (fun y => (.d (.b y)))) h (OK_wEqData y1 y2) (by kernel_rfl) (by kernel_rfl) (fun _ => rfl) ?_
      clear h; intro y3 h
      refine dsts_ok 1 (s' := ⟨(26, (.d (.b (!y3)))) :: (25, (.d (.b y3))) :: (24, (vGData y2)) :: (23, (.rp [(.sl 1 (y2.rows.map (cSl 3 cGValue)))])) :: (22, (.d (.i .i64 x5))) :: (21, (.d (.sl 1 (p1.map cGData)))) :: (20, (vGData y1)) :: (19, (.rp [(.sl 1 (y1.rows.map (cSl 3 cGValue)))])) :: (18, (.d (.i .i64 x5))) :: (17, (.d (.sl 1 (p0.map cGData)))) :: (14, (.d (.b (decide (x5 < (p0.length : Int)))))) :: (13, (.d (.i .i64 (p0.length : Int)))) :: (12, (.d (.sl 1 (p0.map cGData)))) :: (11, (.d (.i .i64 x5))) :: (stwEqDataS_L0 p0 p1 x5).env, (stwEqDataS_L0 p0 p1 x5).bx⟩) (by kernel_rfl) ?_
      refine dnil_in (by kernel_rfl) (by kernel_rfl) ?_
      refine next_in ?_
      refine cond_step h (by kernel_rfl) ?_ ?_
      · clear h; intro h
        refine seq_in ?_
        refine ops_in ?_
        refine sts_ok 1 (s' := ⟨(4, (.d (.b false))) :: (26, (.d (.b (!y3)))) :: (25, (.d (.b y3))) :: (24, (vGData y2)) :: (23, (.rp [(.sl 1 (y2.rows.map (cSl 3 cGValue)))])) :: (22, (.d (.i .i64 x5))) :: (21, (.d (.sl 1 (p1.map cGData)))) :: (20, (vGData y1)) :: (19, (.rp [(.sl 1 (y1.rows.map (cSl 3 cGValue)))])) :: (18, (.d (.i .i64 x5))) :: (17, (.d (.sl 1 (p0.map cGData)))) :: (14, (.d (.b (decide (x5 < (p0.length : Int)))))) :: (13, (.d (.i .i64 (p0.length : Int)))) :: (12, (.d (.sl 1 (p0.map cGData)))) :: (11, (.d (.i .i64 x5))) :: (stwEqDataS_L0 p0 p1 x5).env, (stwEqDataS_L0 p0 p1 x5).bx⟩) (by kernel_rfl) ?_
        refine nil_in ?_
        refine next_in ?_
        refine ret_in ?_
        refine blockK_ret ?_
        refine thenK_ret ?_
        refine thenK_ret ?_
        refine blockK_ret ?_
        refine thenK_ret ?_
        have h := Option.some.inj h; subst h
        exact ret1_step (v := (.d (.b false))) (by kernel_rfl) (by kernel_rfl) (by kernel_rfl)
      · clear h; intro h
        refine skip_in ?_
        refine blockK_norm ?_
        refine next_in ?_
        refine ops_in ?_
        refine sts_ok 3 (s' := ⟨(5, (.d (.i .i64 (IntKind.wrap .i64 (x5 + 1))))) :: (16, (.d (.i .i64 (IntKind.wrap .i64 (x5 + 1))))) :: (15, (.d (.i .i64 x5))) :: (26, (.d (.b (!y3)))) :: (25, (.d (.b y3))) :: (24, (vGData y2)) :: (23, (.rp [(.sl 1 (y2.rows.map (cSl 3 cGValue)))])) :: (22, (.d (.i .i64 x5))) :: (21, (.d (.sl 1 (p1.map cGData)))) :: (20, (vGData y1)) :: (19, (.rp [(.sl 1 (y1.rows.map (cSl 3 cGValue)))])) :: (18, (.d (.i .i64 x5))) :: (17, (.d (.sl 1 (p0.map cGData)))) :: (14, (.d (.b (decide (x5 < (p0.length : Int)))))) :: (13, (.d (.i .i64 (p0.length : Int)))) :: (12, (.d (.sl 1 (p0.map cGData)))) :: (11, (.d (.i .i64 x5))) :: (stwEqDataS_L0 p0 p1 x5).env, (stwEqDataS_L0 p0 p1 x5).bx⟩) (by kernel_rfl) ?_
        refine nil_in ?_
        exact loop_back (s' := stwEqDataS_L0 p0 p1 (IntKind.wrap .i64 (x5 + 1))) (wk_ren [] (by kernel_rfl) (er_cons (vr_same (by kernel_rfl) (by kernel_rfl)) (er_cons (vr_same (by kernel_rfl) (by kernel_rfl)) (er_cons (vr_same (by kernel_rfl) (by kernel_rfl)) (er_nil)))) (br_nil)) (OK_wEqDataS_L0 (IntKind.wrap .i64 (x5 + 1)) _ h)
    · clear h; intro h
      refine exit_in ?_
      refine thenK_exit ?_
      refine thenK_exit ?_
      refine blockK_here ?_
      refine next_in ?_
      refine seq_in ?_
      refine ops_in ?_
      refine sts_ok 1 (s' := ⟨(4, (.d (.b true))) :: (14, (.d (.b (decide (x5 < (p0.length : Int)))))) :: (13, (.d (.i .i64 (p0.length : Int)))) :: (12, (.d (.sl 1 (p0.map cGData)))) :: (11, (.d (.i .i64 x5))) :: (stwEqDataS_L0 p0 p1 x5).env, (stwEqDataS_L0 p0 p1 x5).bx⟩) (by kernel_rfl) ?_
      refine nil_in ?_
      refine next_in ?_
      refine ret_in ?_
      have h := Option.some.inj h; subst h
      exact ret1_step (v := (.d (.b true))) (by kernel_rfl) (by kernel_rfl) (by kernel_rfl)
theorem OK_wEqDataS_L0 (p0 : (List GData)) (p1 : (List GData)) (x5 : Int) (r : Bool) (h : wEqDataS_L0 p0 p1 x5 = some r) : avc Try.prog acwEqDataS_L0 (qwEqDataS_1 r) (stwEqDataS_L0 p0 p1 x5) := (OKs_wEqDataS_L0 p0 p1) x5 r h
theorem OK_wEqDataS (p0 : (List GData)) (p1 : (List GData)) : FOk Try.prog 93 [(.d (.sl 1 (p0.map cGData))), (.d (.sl 1 (p1.map cGData)))] (fun y => (.d (.b y))) (wEqDataS p0 p1) := by
  intro r h
  rw [wEqDataS] at h
  refine acalls_of_fn trwEqDataS (Nat.le_of_ble_eq_true rfl) (by simp) ?_
  show avc Try.prog acwEqDataS (qwEqDataS _) ⟨[(0, (.d (.sl 1 (p0.map cGData)))), (1, (.d (.sl 1 (p1.map cGData))))], []⟩
  delta acwEqDataS
  refine seq_in ?_
  refine ops_in ?_
  refine sts_ok 1 (s' := ⟨[(4, (.d (.b false))), (0, (.d (.sl 1 (p0.map cGData)))), (1, (.d (.sl 1 (p1.map cGData))))], []⟩) (by kernel_rfl) ?_
  refine nil_in ?_
  refine next_in ?_
  refine seq_in ?_
  refine seq_in ?_
  refine ops_in ?_
  refine sts_ok 1 (s' := ⟨[(6, (.d (.sl 1 (p0.map cGData)))), (4, (.d (.b false))), (0, (.d (.sl 1 (p0.map cGData)))), (1, (.d (.sl 1 (p1.map cGData))))], []⟩) (by kernel_rfl) ?_
  refine p_step (v' := (.d (.i .i64 (p0.length : Int)))) rfl rfl (vop_len (sz := 1) (l := p0) (f := cGData) (by kernel_rfl) (by kernel_rfl)) ?_
  refine sts_ok 1 (s' := ⟨[(8, (.d (.sl 1 (p1.map cGData)))), (7, (.d (.i .i64 (p0.length : Int)))), (6, (.d (.sl 1 (p0.map cGData)))), (4, (.d (.b false))), (0, (.d (.sl 1 (p0.map cGData)))), (1, (.d (.sl 1 (p1.map cGData))))], []⟩) (by kernel_rfl) ?_
  refine p_step (v' := (.d (.i .i64 (p1.length : Int)))) rfl rfl (vop_len (sz := 1) (l := p1) (f := cGData) (by kernel_rfl) (by kernel_rfl)) ?_
  refine sts_ok 1 (s' := ⟨[(10, (.d (.b (!decide ((p0.length : Int) = (p1.length : Int)))))), (9, (.d (.i .i64 (p1.length : Int)))), (8, (.d (.sl 1 (p1.map cGData)))), (7, (.d (.i .i64 (p0.length : Int)))), (6, (.d (.sl 1 (p0.map cGData)))), (4, (.d (.b false))), (0, (.d (.sl 1 (p0.map cGData)))), (1, (.d (.sl 1 (p1.map cGData))))], []⟩) (by kernel_rfl) ?_
  refine nil_in ?_
  refine next_in ?_
  refine cond_step h (by kernel_rfl) ?_ ?_
  · clear h; intro h
    refine seq_in ?_
    refine ops_in ?_
    refine sts_ok 1 (s' := ⟨[(4, (.d (.b false))), (10, (.d (.b (!decide ((p0.length : Int) = (p1.length : Int)))))), (9, (.d (.i .i64 (p1.length : Int)))), (8, (.d (.sl 1 (p1.map cGData)))), (7, (.d (.i .i64 (p0.length : Int)))), (6, (.d (.sl 1 (p0.map cGData)))), (4, (.d (.b false))), (0, (.d (.sl 1 (p0.map cGData)))), (1, (.d (.sl 1 (p1.map cGData))))], []⟩) (by kernel_rfl) ?_
    refine nil_in ?_
    refine next_in ?_
    refine ret_in ?_
    refine thenK_ret ?_
    have h := Option.some.inj h; subst h
    exact ret1_step (v := (.d (.b false))) (by kernel_rfl) (by kernel_rfl) (by kernel_rfl)
  · clear h; intro h
    refine skip_in ?_
    refine next_in ?_
    refine seq_in ?_
    refine seq_in ?_
    refine ops_in ?_
    refine sts_ok 1 (s' := ⟨[(5, (.d (.i .i64 0))), (10, (.d (.b (!decide ((p0.length : Int) = (p1.length : Int)))))), (9, (.d (.i .i64 (p1.length : Int)))), (8, (.d (.sl 1 (p1.map cGData)))), (7, (.d (.i .i64 (p0.length : Int)))), (6, (.d (.sl 1 (p0.map cGData)))), (4, (.d (.b false))), (0, (.d (.sl 1 (p0.map cGData)))), (1, (.d (.sl 1 (p1.map cGData))))], []⟩) (by kernel_rfl) ?_
    refine nil_in ?_
    refine next_in ?_
    refine block_in ?_
    exact loop_go (s' := stwEqDataS_L0 p0 p1 0) (wk_ren [] (by kernel_rfl) (er_cons (vr_same (by kernel_rfl) (by kernel_rfl)) (er_cons (vr_same (by kernel_rfl) (by kernel_rfl)) (er_cons (vr_same (by kernel_rfl) (by kernel_rfl)) (er_nil)))) (br_nil)) (OK_wEqDataS_L0 p0 p1 0 _ h)
theorem OK_wEqDb (p0 : GDb) (p1 : GDb) : FOk Try.prog 46 [(vGDb p0), (vGDb p1)] (fun y => (.d (.b y))) (wEqDb p0 p1) := by
  intro r h
  rw [wEqDb] at h
  refine acalls_of_fn trwEqDb (Nat.le_of_ble_eq_true rfl) (by simp) ?_
  show avc Try.prog acwEqDb (qwEqDb _) ⟨[(0, (vGDb p0)), (1, (vGDb p1))], []⟩
  delta acwEqDb
  refine seq_in ?_
  refine ops_in ?_
  refine sts_ok 3 (s' := ⟨[(4, (.d (.b false))), (3, (.ptr 3 0)), (2, (.ptr 2 0)), (0, (vGDb p0)), (1, (vGDb p1))], [(3, [(.d (.sl 1 (p1.tables.map cGData)))]), (2, [(.d (.sl 1 (p0.tables.map cGData)))])]⟩) (by kernel_rfl) ?_
  refine nil_in ?_
  refine next_in ?_
  refine seq_in ?_
  refine seq_in ?_
  refine ops_in ?_
  refine sts_ok 4 (s' := ⟨[(8, (.d (.sl 1 (p1.tables.map cGData)))), (7, (.ptr 3 0)), (6, (.d (.sl 1 (p0.tables.map cGData)))), (5, (.ptr 2 0)), (4, (.d (.b false))), (3, (.ptr 3 0)), (2, (.ptr 2 0)), (0, (vGDb p0)), (1, (vGDb p1))], [(3, [(.d (.sl 1 (p1.tables.map cGData)))]), (2, [(.d (.sl 1 (p0.tables.map cGData)))])]⟩) (by kernel_rfl) ?_
  refine call_step (m := wEqDataS p0.tables p1.tables) (args := [(.d (.sl 1 (p0.tables.map cGData))), (.d (.sl 1 (p1.tables.map cGData)))]) (v' := (fun y => (.d (.b y)))) h (OK_wEqDataS p0.tables p1.tables) (by kernel_rfl) (by kernel_rfl) (fun _ => rfl) ?_
  clear h; intro y1 h
  refine sts_ok 1 (s' := ⟨[(10, (.d (.b (!y1)))), (9, (.d (.b y1))), (8, (.d (.sl 1 (p1.tables.map cGData)))), (7, (.ptr 3 0)), (6, (.d (.sl 1 (p0.tables.map cGData)))), (5, (.ptr 2 0)), (4, (.d (.b false))), (3, (.ptr 3 0)), (2, (.ptr 2 0)), (0, (vGDb p0)), (1, (vGDb p1))], [(3, [(.d (.sl 1 (p1.tables.map cGData)))]), (2, [(.d (.sl 1 (p0.tables.map cGData)))])]⟩) (by kernel_rfl) ?_
  refine nil_in ?_
  refine next_in ?_
  refine cond_step h (by kernel_rfl) ?_ ?_
  · clear h; intro h
    refine seq_in ?_
    refine ops_in ?_
    refine sts_ok 1 (s' := ⟨[(4, (.d (.b false))), (10, (.d (.b (!y1)))), (9, (.d (.b y1))), (8, (.d (.sl 1 (p1.tables.map cGData)))), (7, (.ptr 3 0)), (6, (.d (.sl 1 (p0.tables.map cGData)))), (5, (.ptr 2 0)), (4, (.d (.b false))), (3, (.ptr 3 0)), (2, (.ptr 2 0)), (0, (vGDb p0)), (1, (vGDb p1))], [(3, [(.d (.sl 1 (p1.tables.map cGData)))]), (2, [(.d (.sl 1 (p0.tables.map cGData)))])]⟩) (by kernel_rfl) ?_
    refine nil_in ?_
    refine next_in ?_
    refine ret_in ?_
    refine thenK_ret ?_
    have h := Option.some.inj h; subst h
    exact ret1_step (v := (.d (.b false))) (by kernel_rfl) (by kernel_rfl) (by kernel_rfl)
  · clear h; intro h
    refine skip_in ?_
    refine next_in ?_
    refine seq_in ?_
    refine ops_in ?_
    refine sts_ok 1 (s' := ⟨[(4, (.d (.b true))), (10, (.d (.b (!y1)))), (9, (.d (.b y1))), (8, (.d (.sl 1 (p1.tables.map cGData)))), (7, (.ptr 3 0)), (6, (.d (.sl 1 (p0.tables.map cGData)))), (5, (.ptr 2 0)), (4, (.d (.b false))), (3, (.ptr 3 0)), (2, (.ptr 2 0)), (0, (vGDb p0)), (1, (vGDb p1))], [(3, [(.d (.sl 1 (p1.tables.map cGData)))]), (2, [(.d (.sl 1 (p0.tables.map cGData)))])]⟩) (by kernel_rfl) ?_
    refine nil_in ?_
    refine next_in ?_
    refine ret_in ?_
    have h := Option.some.inj h; subst h
    exact ret1_step (v := (.d (.b true))) (by kernel_rfl) (by kernel_rfl) (by kernel_rfl)
theorem OK_wSzCol (p0 : GCol) (p1 : Int) : FOk Try.prog 215 [(vGCol p0), (.d (.i .i64 p1))] (fun y => (.d (.i .i64 y))) (wSzCol p0 p1) := by
  intro r h
  rw [wSzCol] at h
  refine acalls_of_fn trwSzCol (Nat.le_of_ble_eq_true rfl) (by simp) ?_
  show avc Try.prog acwSzCol (qwSzCol _) ⟨[(0, (vGCol p0)), (1, (.d (.i .i64 p1)))], []⟩
  delta acwSzCol
  refine seq_in ?_
  refine ops_in ?_
  refine sts_ok 2 (s' := ⟨[(4, (.d (.i .i64 0))), (2, (.ptr 2 0)), (0, (vGCol p0)), (1, (.d (.i .i64 p1)))], [(2, [(.d (.s (bs p0.name))), (.d (.i .i64 p0.type))])]⟩) (by kernel_rfl) ?_
  refine nil_in ?_
  refine next_in ?_
  refine seq_in ?_
  refine ops_in ?_
  refine sts_ok 6 (s' := ⟨[(1, (.d (.i .i64 (IntKind.wrap .i64 (p1 - (p0.name.length : Int)))))), (9, (.d (.i .i64 (IntKind.wrap .i64 (p1 - (p0.name.length : Int)))))), (8, (.d (.i .i64 (p0.name.length : Int)))), (7, (.d (.s (bs p0.name)))), (6, (.ptr 2 0)), (5, (.d (.i .i64 p1))), (4, (.d (.i .i64 0))), (2, (.ptr 2 0)), (0, (vGCol p0)), (1, (.d (.i .i64 p1)))], [(2, [(.d (.s (bs p0.name))), (.d (.i .i64 p0.type))])]⟩) (by kernel_rfl) ?_
  refine nil_in ?_
  refine next_in ?_
  refine seq_in ?_
  refine seq_in ?_
  refine ops_in ?_
  refine sts_ok 2 (s' := ⟨[(11, (.d (.b (decide ((IntKind.wrap .i64 (p1 - (p0.name.length : Int))) < 0))))), (10, (.d (.i .i64 (IntKind.wrap .i64 (p1 - (p0.name.length : Int)))))), (1, (.d (.i .i64 (IntKind.wrap .i64 (p1 - (p0.name.length : Int)))))), (9, (.d (.i .i64 (IntKind.wrap .i64 (p1 - (p0.name.length : Int)))))), (8, (.d (.i .i64 (p0.name.length : Int)))), (7, (.d (.s (bs p0.name)))), (6, (.ptr 2 0)), (5, (.d (.i .i64 p1))), (4, (.d (.i .i64 0))), (2, (.ptr 2 0)), (0, (vGCol p0)), (1, (.d (.i .i64 p1)))], [(2, [(.d (.s (bs p0.name))), (.d (.i .i64 p0.type))])]⟩) (by kernel_rfl) ?_
  refine nil_in ?_
  refine next_in ?_
  refine cond_step h (by kernel_rfl) ?_ ?_
  · clear h; intro h
    refine seq_in ?_
    refine ops_in ?_
    refine sts_ok 1 (s' := ⟨[(4, (.d (.i .i64 (-1)))), (11, (.d (.b (decide ((IntKind.wrap .i64 (p1 - (p0.name.length : Int))) < 0))))), (10, (.d (.i .i64 (IntKind.wrap .i64 (p1 - (p0.name.length : Int)))))), (1, (.d (.i .i64 (IntKind.wrap .i64 (p1 - (p0.name.length : Int)))))), (9, (.d (.i .i64 (IntKind.wrap .i64 (p1 - (p0.name.length : Int)))))), (8, (.d (.i .i64 (p0.name.length : Int)))), (7, (.d (.s (bs p0.name)))), (6, (.ptr 2 0)), (5, (.d (.i .i64 p1))), (4, (.d (.i .i64 0))), (2, (.ptr 2 0)), (0, (vGCol p0)), (1, (.d (.i .i64 p1)))], [(2, [(.d (.s (bs p0.name))), (.d (.i .i64 p0.type))])]⟩) (by kernel_rfl) ?_
    refine nil_in ?_
    refine next_in ?_
    refine ret_in ?_
    refine thenK_ret ?_
    have h := Option.some.inj h; subst h
    exact ret1_step (v := (.d (.i .i64 (-1)))) (by kernel_rfl) (by kernel_rfl) (by kernel_rfl)
  · clear h; intro h
    refine skip_in ?_
    refine next_in ?_
    refine seq_in ?_
    refine ops_in ?_
    refine sts_ok 2 (s' := ⟨[(4, (.d (.i .i64 (IntKind.wrap .i64 (p1 - (p0.name.length : Int)))))), (12, (.d (.i .i64 (IntKind.wrap .i64 (p1 - (p0.name.length : Int)))))), (11, (.d (.b (decide ((IntKind.wrap .i64 (p1 - (p0.name.length : Int))) < 0))))), (10, (.d (.i .i64 (IntKind.wrap .i64 (p1 - (p0.name.length : Int)))))), (1, (.d (.i .i64 (IntKind.wrap .i64 (p1 - (p0.name.length : Int)))))), (9, (.d (.i .i64 (IntKind.wrap .i64 (p1 - (p0.name.length : Int)))))), (8, (.d (.i .i64 (p0.name.length : Int)))), (7, (.d (.s (bs p0.name)))), (6, (.ptr 2 0)), (5, (.d (.i .i64 p1))), (4, (.d (.i .i64 0))), (2, (.ptr 2 0)), (0, (vGCol p0)), (1, (.d (.i .i64 p1)))], [(2, [(.d (.s (bs p0.name))), (.d (.i .i64 p0.type))])]⟩) (by kernel_rfl) ?_
    refine nil_in ?_
    refine next_in ?_
    refine ret_in ?_
    have h := Option.some.inj h; subst h
    exact ret1_step (v := (.d (.i .i64 (IntKind.wrap .i64 (p1 - (p0.name.length : Int)))))) (by kernel_rfl) (by kernel_rfl) (by kernel_rfl)
theorem OKs_wSzColS_L0 (p0 : (List GCol)) : (∀ (x1 : Int) (x5 : Int) (r : Int), wSzColS_L0 p0 x1 x5 = some r → avc Try.prog acwSzColS_L0 (qwSzColS_1 r) (stwSzColS_L0 p0 x1 x5)) := by
  refine wSzColS_L0.partial_correctness p0 (fun x1 x5 r => avc Try.prog acwSzColS_L0 (qwSzColS_1 r) (stwSzColS_L0 p0 x1 x5)) ?_
  · intro F_wSzColS_L0 OK_wSzColS_L0 x1 x5 r h
    delta acwSzColS_L0
    refine loop_unroll ?_
    refine seq_in ?_
    refine seq_in ?_
    refine ops_in ?_
    refine sts_ok 2 (s' := ⟨(13, (.d (.sl 2 (p0.map cGCol)))) :: (12, (.d (.i .i64 x5))) :: (stwSzColS_L0 p0 x1 x5).env, (stwSzColS_L0 p0 x1 x5).bx⟩) (by kernel_rfl) ?_
    refine p_step (v' := (.d (.i .i64 (p0.length : Int)))) rfl rfl (vop_len (sz := 2) (l := p0) (f := cGCol) (by kernel_rfl) (by kernel_rfl)) ?_
    refine sts_ok 1 (s' := ⟨(15, (.d (.b (decide (x5 < (p0.length : Int)))))) :: (14, (.d (.i .i64 (p0.length : Int)))) :: (13, (.d (.sl 2 (p0.map cGCol)))) :: (12, (.d (.i .i64 x5))) :: (stwSzColS_L0 p0 x1 x5).env, (stwSzColS_L0 p0 x1 x5).bx⟩) (by kernel_rfl) ?_
    refine nil_in ?_
    refine next_in ?_
    refine cond_step h (by kernel_rfl) ?_ ?_
    · clear h; intro h
      refine skip_in ?_
      refine next_in ?_
      refine seq_in ?_
      refine block_in ?_
      refine seq_in ?_
      refine ops_in ?_
      refine sts_ok 2 (s' := ⟨(19, (.d (.i .i64 x5))) :: (18, (.d (.sl 2 (p0.map cGCol)))) :: (15, (.d (.b (decide (x5 < (p0.length : Int)))))) :: (14, (.d (.i .i64 (p0.length : Int)))) :: (13, (.d (.sl 2 (p0.map cGCol)))) :: (12, (.d (.i .i64 x5))) :: (stwSzColS_L0 p0 x1 x5).env, (stwSzColS_L0 p0 x1 x5).bx⟩) (by kernel_rfl) ?_
      refine v_step (m := idx p0 x5) (v' := fun y => (.rp [(.s (bs y.name)), (.i .i64 y.type)])) h rfl rfl (fun y hy => vop_ia (l := p0) (f := cGCol) (g := cGCol) (k := .i64) hy (fun _ => rfl) (by kernel_rfl) (by kernel_rfl) (by kernel_rfl)) ?_
      clear h; intro y1 h
      refine sts_ok 2 (s' := ⟨(22, (.d (.i .i64 x1))) :: (21, (vGCol y1)) :: (20, (.rp [(.s (bs y1.name)), (.i .i64 y1.type)])) :: (19, (.d (.i .i64 x5))) :: (18, (.d (.sl 2 (p0.map cGCol)))) :: (15, (.d (.b (decide (x5 < (p0.length : Int)))))) :: (14, (.d (.i .i64 (p0.length : Int)))) :: (13, (.d (.sl 2 (p0.map cGCol)))) :: (12, (.d (.i .i64 x5))) :: (stwSzColS_L0 p0 x1 x5).env, (stwSzColS_L0 p0 x1 x5).bx⟩) (by kernel_rfl) ?_
      refine call_step (m := wSzCol y1 x1) (args := [(vGCol y1), (.d (.i .i64 x1))]) (v' := (fun y => (.d (.i .i64 y)))) h (OK_wSzCol y1 x1) (by kernel_rfl) (by kernel_rfl) (fun _ => rfl) ?_
      clear h; intro y2 h
      refine sts_ok 1 (s' := ⟨(1, (.d (.i .i64 y2))) :: (23, (.d (.i .i64 y2))) :: (22, (.d (.i .i64 x1))) :: (21, (vGCol y1)) :: (20, (.rp [(.s (bs y1.name)), (.i .i64 y1.type)])) :: (19, (.d (.i .i64 x5))) :: (18, (.d (.sl 2 (p0.map cGCol)))) :: (15, (.d (.b (decide (x5 < (p0.length : Int)))))) :: (14, (.d (.i .i64 (p0.length : Int)))) :: (13, (.d (.sl 2 (p0.map cGCol)))) :: (12, (.d (.i .i64 x5))) :: (stwSzColS_L0 p0 x1 x5).env, (stwSzColS_L0 p0 x1 x5).bx⟩) (by kernel_rfl) ?_
      refine nil_in ?_
      refine next_in ?_
      refine seq_in ?_
      refine ops_in ?_
      refine sts_ok 2 (s' := ⟨(25, (.d (.b (decide (y2 < 0))))) :: (24, (.d (.i .i64 y2))) :: (1, (.d (.i .i64 y2))) :: (23, (.d (.i .i64 y2))) :: (22, (.d (.i .i64 x1))) :: (21, (vGCol y1)) :: (20, (.rp [(.s (bs y1.name)), (.i .i64 y1.type)])) :: (19, (.d (.i .i64 x5))) :: (18, (.d (.sl 2 (p0.map cGCol)))) :: (15, (.d (.b (decide (x5 < (p0.length : Int)))))) :: (14, (.d (.i .i64 (p0.length : Int)))) :: (13, (.d (.sl 2 (p0.map cGCol)))) :: (12, (.d (.i .i64 x5))) :: (stwSzColS_L0 p0 x1 x5).env, (stwSzColS_L0 p0 x1 x5).bx⟩) (by kernel_rfl) ?_
      refine nil_in ?_
      refine next_in ?_
      refine cond_step h (by kernel_rfl) ?_ ?_
      · clear h; intro h
        refine seq_in ?_
        refine ops_in ?_
        refine sts_ok 1 (s' := ⟨(4, (.d (.i .i64 (-1)))) :: (25, (.d (.b (decide (y2 < 0))))) :: (24, (.d (.i .i64 y2))) :: (1, (.d (.i .i64 y2))) :: (23, (.d (.i .i64 y2))) :: (22, (.d (.i .i64 x1))) :: (21, (vGCol y1)) :: (20, (.rp [(.s (bs y1.name)), (.i .i64 y1.type)])) :: (19, (.d (.i .i64 x5))) :: (18, (.d (.sl 2 (p0.map cGCol)))) :: (15, (.d (.b (decide (x5 < (p0.length : Int)))))) :: (14, (.d (.i .i64 (p0.length : Int)))) :: (13, (.d (.sl 2 (p0.map cGCol)))) :: (12, (.d (.i .i64 x5))) :: (stwSzColS_L0 p0 x1 x5).env, (stwSzColS_L0 p0 x1 x5).bx⟩) (by kernel_rfl) ?_
        refine nil_in ?_
        refine next_in ?_
        refine ret_in ?_
        refine blockK_ret ?_
        refine thenK_ret ?_
        refine thenK_ret ?_
        refine blockK_ret ?_
        refine thenK_ret ?_
        have h := Option.some.inj h; subst h
        exact ret1_step (v := (.d (.i .i64 (-1)))) (by kernel_rfl) (by kernel_rfl) (by kernel_rfl)
      · clear h; intro h
        refine skip_in ?_
        refine blockK_norm ?_
        refine next_in ?_
        refine ops_in ?_
        refine sts_ok 3 (s' := ⟨(5, (.d (.i .i64 (IntKind.wrap .i64 (x5 + 1))))) :: (17, (.d (.i .i64 (IntKind.wrap .i64 (x5 + 1))))) :: (16, (.d (.i .i64 x5))) :: (25, (.d (.b (decide (y2 < 0))))) :: (24, (.d (.i .i64 y2))) :: (1, (.d (.i .i64 y2))) :: (23, (.d (.i .i64 y2))) :: (22, (.d (.i .i64 x1))) :: (21, (vGCol y1)) :: (20, (.rp [(.s (bs y1.name)), (.i .i64 y1.type)])) :: (19, (.d (.i .i64 x5))) :: (18, (.d (.sl 2 (p0.map cGCol)))) :: (15, (.d (.b (decide (x5 < (p0.length : Int)))))) :: (14, (.d (.i .i64 (p0.length : Int)))) :: (13, (.d (.sl 2 (p0.map cGCol)))) :: (12, (.d (.i .i64 x5))) :: (stwSzColS_L0 p0 x1 x5).env, (stwSzColS_L0 p0 x1 x5).bx⟩) (by kernel_rfl) ?_
        refine nil_in ?_
        exact loop_back (s' := stwSzColS_L0 p0 y2 (IntKind.wrap .i64 (x5 + 1))) (wk_ren [] (by kernel_rfl) (er_cons (vr_same (by kernel_rfl) (by kernel_rfl)) (er_cons (vr_same (by kernel_rfl) (by kernel_rfl)) (er_cons (vr_same (by kernel_rfl) (by kernel_rfl)) (er_nil)))) (br_nil)) (OK_wSzColS_L0 y2 (IntKind.wrap .i64 (x5 + 1)) _ h)
    · clear h; intro h
      refine exit_in ?_
      refine thenK_exit ?_
      refine thenK_exit ?_
      refine blockK_here ?_
      refine next_in ?_
      refine seq_in ?_
      refine ops_in ?_
      refine sts_ok 2 (s' := ⟨(4, (.d (.i .i64 x1))) :: (26, (.d (.i .i64 x1))) :: (15, (.d (.b (decide (x5 < (p0.length : Int)))))) :: (14, (.d (.i .i64 (p0.length : Int)))) :: (13, (.d (.sl 2 (p0.map cGCol)))) :: (12, (.d (.i .i64 x5))) :: (stwSzColS_L0 p0 x1 x5).env, (stwSzColS_L0 p0 x1 x5).bx⟩) (by kernel_rfl) ?_
      refine nil_in ?_
      refine next_in ?_
      refine ret_in ?_
      have h := Option.some.inj h; subst h
      exact ret1_step (v := (.d (.i .i64 x1))) (by kernel_rfl) (by kernel_rfl) (by kernel_rfl)
theorem OK_wSzColS_L0 (p0 : (List GCol)) (x1 : Int) (x5 : Int) (r : Int) (h : wSzColS_L0 p0 x1 x5 = some r) : avc Try.prog acwSzColS_L0 (qwSzColS_1 r) (stwSzColS_L0 p0 x1 x5) := (OKs_wSzColS_L0 p0) x1 x5 r h
theorem OK_wSzColS (p0 : (List GCol)) (p1 : Int) : FOk Try.prog 195 [(.d (.sl 2 (p0.map cGCol))), (.d (.i .i64 p1))] (fun y => (.d (.i .i64 y))) (wSzColS p0 p1) := by
  intro r h
  rw [wSzColS] at h
  refine acalls_of_fn trwSzColS (Nat.le_of_ble_eq_true rfl) (by simp) ?_
  show avc Try.prog acwSzColS (qwSzColS _) ⟨[(0, (.d (.sl 2 (p0.map cGCol)))), (1, (.d (.i .i64 p1)))], []⟩
  delta acwSzColS
  refine seq_in ?_
  refine ops_in ?_
  refine sts_ok 1 (s' := ⟨[(4, (.d (.i .i64 0))), (0, (.d (.sl 2 (p0.map cGCol)))), (1, (.d (.i .i64 p1)))], []⟩) (by kernel_rfl) ?_
  refine nil_in ?_
  refine next_in ?_
  refine seq_in ?_
  refine ops_in ?_
  refine sts_ok 2 (s' := ⟨[(7, (.d (.sl 2 (p0.map cGCol)))), (6, (.d (.i .i64 p1))), (4, (.d (.i .i64 0))), (0, (.d (.sl 2 (p0.map cGCol)))), (1, (.d (.i .i64 p1)))], []⟩) (by kernel_rfl) ?_
  refine p_step (v' := (.d (.i .i64 (p0.length : Int)))) rfl rfl (vop_len (sz := 2) (l := p0) (f := cGCol) (by kernel_rfl) (by kernel_rfl)) ?_
  refine sts_ok 2 (s' := ⟨[(1, (.d (.i .i64 (IntKind.wrap .i64 (p1 - (p0.length : Int)))))), (9, (.d (.i .i64 (IntKind.wrap .i64 (p1 - (p0.length : Int)))))), (8, (.d (.i .i64 (p0.length : Int)))), (7, (.d (.sl 2 (p0.map cGCol)))), (6, (.d (.i .i64 p1))), (4, (.d (.i .i64 0))), (0, (.d (.sl 2 (p0.map cGCol)))), (1, (.d (.i .i64 p1)))], []⟩) (by kernel_rfl) ?_
  refine nil_in ?_
  refine next_in ?_
  refine seq_in ?_
  refine seq_in ?_
  refine ops_in ?_
  refine sts_ok 2 (s' := ⟨[(11, (.d (.b (decide ((IntKind.wrap .i64 (p1 - (p0.length : Int))) < 0))))), (10, (.d (.i .i64 (IntKind.wrap .i64 (p1 - (p0.length : Int)))))), (1, (.d (.i .i64 (IntKind.wrap .i64 (p1 - (p0.length : Int)))))), (9, (.d (.i .i64 (IntKind.wrap .i64 (p1 - (p0.length : Int)))))), (8, (.d (.i .i64 (p0.length : Int)))), (7, (.d (.sl 2 (p0.map cGCol)))), (6, (.d (.i .i64 p1))), (4, (.d (.i .i64 0))), (0, (.d (.sl 2 (p0.map cGCol)))), (1, (.d (.i .i64 p1)))], []⟩) (by kernel_rfl) ?_
  refine nil_in ?_
  refine next_in ?_
  refine cond_step h (by kernel_rfl) ?_ ?_
  · clear h; intro h
    refine seq_in ?_
    refine ops_in ?_
    refine sts_ok 1 (s' := ⟨[(4, (.d (.i .i64 (-1)))), (11, (.d (.b (decide ((IntKind.wrap .i64 (p1 - (p0.length : Int))) < 0))))), (10, (.d (.i .i64 (IntKind.wrap .i64 (p1 - (p0.length : Int)))))), (1, (.d (.i .i64 (IntKind.wrap .i64 (p1 - (p0.length : Int)))))), (9, (.d (.i .i64 (IntKind.wrap .i64 (p1 - (p0.length : Int)))))), (8, (.d (.i .i64 (p0.length : Int)))), (7, (.d (.sl 2 (p0.map cGCol)))), (6, (.d (.i .i64 p1))), (4, (.d (.i .i64 0))), (0, (.d (.sl 2 (p0.map cGCol)))), (1, (.d (.i .i64 p1)))], []⟩) (by kernel_rfl) ?_
    refine nil_in ?_
    refine next_in ?_
    refine ret_in ?_
    refine thenK_ret ?_
    have h := Option.some.inj h; subst h
    exact ret1_step (v := (.d (.i .i64 (-1)))) (by kernel_rfl) (by kernel_rfl) (by kernel_rfl)
  · clear h; intro h
    refine skip_in ?_
    refine next_in ?_
    refine seq_in ?_
    refine seq_in ?_
    refine ops_in ?_
    refine sts_ok 1 (s' := ⟨[(5, (.d (.i .i64 0))), (11, (.d (.b (decide ((IntKind.wrap .i64 (p1 - (p0.length : Int))) < 0))))), (10, (.d (.i .i64 (IntKind.wrap .i64 (p1 - (p0.length : Int)))))), (1, (.d (.i .i64 (IntKind.wrap .i64 (p1 - (p0.length : Int)))))), (9, (.d (.i .i64 (IntKind.wrap .i64 (p1 - (p0.length : Int)))))), (8, (.d (.i .i64 (p0.length : Int)))), (7, (.d (.sl 2 (p0.map cGCol)))), (6, (.d (.i .i64 p1))), (4, (.d (.i .i64 0))), (0, (.d (.sl 2 (p0.map cGCol)))), (1, (.d (.i .i64 p1)))], []⟩) (by kernel_rfl) ?_
    refine nil_in ?_
    refine next_in ?_
    refine block_in ?_
    exact loop_go (s' := stwSzColS_L0 p0 (IntKind.wrap .i64 (p1 - (p0.length : Int))) 0) (wk_ren [] (by kernel_rfl) (er_cons (vr_same (by kernel_rfl) (by kernel_rfl)) (er_cons (vr_same (by kernel_rfl) (by kernel_rfl)) (er_cons (vr_same (by kernel_rfl) (by kernel_rfl)) (er_nil)))) (br_nil)) (OK_wSzColS_L0 p0 (IntKind.wrap .i64 (p1 - (p0.length : Int))) 0 _ h)
theorem OK_wSzTable (p0 : GTable) (p1 : Int) : FOk Try.prog 153 [(vGTable p0), (.d (.i .i64 p1))] (fun y => (.d (.i .i64 y))) (wSzTable p0 p1) := by
  intro r h
  rw [wSzTable] at h
  refine acalls_of_fn trwSzTable (Nat.le_of_ble_eq_true rfl) (by simp) ?_
  show avc Try.prog acwSzTable (qwSzTable _) ⟨[(0, (vGTable p0)), (1, (.d (.i .i64 p1)))], []⟩
  delta acwSzTable
  refine seq_in ?_
  refine ops_in ?_
  refine sts_ok 2 (s' := ⟨[(4, (.d (.i .i64 0))), (2, (.ptr 2 0)), (0, (vGTable p0)), (1, (.d (.i .i64 p1)))], [(2, [(.d (.s (bs p0.name))), (.d (.sl 2 (p0.cols.map cGCol)))])]⟩) (by kernel_rfl) ?_
  refine nil_in ?_
  refine next_in ?_
  refine seq_in ?_
  refine ops_in ?_
  refine sts_ok 6 (s' := ⟨[(1, (.d (.i .i64 (IntKind.wrap .i64 (p1 - (p0.name.length : Int)))))), (9, (.d (.i .i64 (IntKind.wrap .i64 (p1 - (p0.name.length : Int)))))), (8, (.d (.i .i64 (p0.name.length : Int)))), (7, (.d (.s (bs p0.name)))), (6, (.ptr 2 0)), (5, (.d (.i .i64 p1))), (4, (.d (.i .i64 0))), (2, (.ptr 2 0)), (0, (vGTable p0)), (1, (.d (.i .i64 p1)))], [(2, [(.d (.s (bs p0.name))), (.d (.sl 2 (p0.cols.map cGCol)))])]⟩) (by kernel_rfl) ?_
  refine nil_in ?_
  refine next_in ?_
  refine seq_in ?_
  refine seq_in ?_
  refine ops_in ?_
  refine sts_ok 2 (s' := ⟨[(11, (.d (.b (decide ((IntKind.wrap .i64 (p1 - (p0.name.length : Int))) < 0))))), (10, (.d (.i .i64 (IntKind.wrap .i64 (p1 - (p0.name.length : Int)))))), (1, (.d (.i .i64 (IntKind.wrap .i64 (p1 - (p0.name.length : Int)))))), (9, (.d (.i .i64 (IntKind.wrap .i64 (p1 - (p0.name.length : Int)))))), (8, (.d (.i .i64 (p0.name.length : Int)))), (7, (.d (.s (bs p0.name)))), (6, (.ptr 2 0)), (5, (.d (.i .i64 p1))), (4, (.d (.i .i64 0))), (2, (.ptr 2 0)), (0, (vGTable p0)), (1, (.d (.i .i64 p1)))], [(2, [(.d (.s (bs p0.name))), (.d (.sl 2 (p0.cols.map cGCol)))])]⟩) (by kernel_rfl) ?_
  refine nil_in ?_
  refine next_in ?_
  refine cond_step h (by kernel_rfl) ?_ ?_
  · clear h; intro h
    refine seq_in ?_
    refine ops_in ?_
    refine sts_ok 1 (s' := ⟨[(4, (.d (.i .i64 (-1)))), (11, (.d (.b (decide ((IntKind.wrap .i64 (p1 - (p0.name.length : Int))) < 0))))), (10, (.d (.i .i64 (IntKind.wrap .i64 (p1 - (p0.name.length : Int)))))), (1, (.d (.i .i64 (IntKind.wrap .i64 (p1 - (p0.name.length : Int)))))), (9, (.d (.i .i64 (IntKind.wrap .i64 (p1 - (p0.name.length : Int)))))), (8, (.d (.i .i64 (p0.name.length : Int)))), (7, (.d (.s (bs p0.name)))), (6, (.ptr 2 0)), (5, (.d (.i .i64 p1))), (4, (.d (.i .i64 0))), (2, (.ptr 2 0)), (0, (vGTable p0)), (1, (.d (.i .i64 p1)))], [(2, [(.d (.s (bs p0.name))), (.d (.sl 2 (p0.cols.map cGCol)))])]⟩) (by kernel_rfl) ?_
    refine nil_in ?_
    refine next_in ?_
    refine ret_in ?_
    refine thenK_ret ?_
    have h := Option.some.inj h; subst h
    exact ret1_step (v := (.d (.i .i64 (-1)))) (by kernel_rfl) (by kernel_rfl) (by kernel_rfl)
  · clear h; intro h
    refine skip_in ?_
    refine next_in ?_
    refine seq_in ?_
    refine ops_in ?_
    refine sts_ok 3 (s' := ⟨[(14, (.d (.i .i64 (IntKind.wrap .i64 (p1 - (p0.name.length : Int)))))), (13, (.d (.sl 2 (p0.cols.map cGCol)))), (12, (.ptr 2 1)), (11, (.d (.b (decide ((IntKind.wrap .i64 (p1 - (p0.name.length : Int))) < 0))))), (10, (.d (.i .i64 (IntKind.wrap .i64 (p1 - (p0.name.length : Int)))))), (1, (.d (.i .i64 (IntKind.wrap .i64 (p1 - (p0.name.length : Int)))))), (9, (.d (.i .i64 (IntKind.wrap .i64 (p1 - (p0.name.length : Int)))))), (8, (.d (.i .i64 (p0.name.length : Int)))), (7, (.d (.s (bs p0.name)))), (6, (.ptr 2 0)), (5, (.d (.i .i64 p1))), (4, (.d (.i .i64 0))), (2, (.ptr 2 0)), (0, (vGTable p0)), (1, (.d (.i .i64 p1)))], [(2, [(.d (.s (bs p0.name))), (.d (.sl 2 (p0.cols.map cGCol)))])]⟩) (by kernel_rfl) ?_
    refine call_step (m := wSzColS p0.cols (IntKind.wrap .i64 (p1 - (p0.name.length : Int)))) (args := [(.d (.sl 2 (p0.cols.map cGCol))), (.d (.i .i64 (IntKind.wrap .i64 (p1 - (p0.name.length : Int)))))]) (v' := (fun y => (.d (.i .i64 y)))) h (OK_wSzColS p0.cols (IntKind.wrap .i64 (p1 - (p0.name.length : Int)))) (by kernel_rfl) (by kernel_rfl) (fun _ => rfl) ?_
    clear h; intro y1 h
    refine sts_ok 1 (s' := ⟨[(1, (.d (.i .i64 y1))), (15, (.d (.i .i64 y1))), (14, (.d (.i .i64 (IntKind.wrap .i64 (p1 - (p0.name.length : Int)))))), (13, (.d (.sl 2 (p0.cols.map cGCol)))), (12, (.ptr 2 1)), (11, (.d (.b (decide ((IntKind.wrap .i64 (p1 - (p0.name.length : Int))) < 0))))), (10, (.d (.i .i64 (IntKind.wrap .i64 (p1 - (p0.name.length : Int)))))), (1, (.d (.i .i64 (IntKind.wrap .i64 (p1 - (p0.name.length : Int)))))), (9, (.d (.i .i64 (IntKind.wrap .i64 (p1 - (p0.name.length : Int)))))), (8, (.d (.i .i64 (p0.name.length : Int)))), (7, (.d (.s (bs p0.name)))), (6, (.ptr 2 0)), (5, (.d (.i .i64 p1))), (4, (.d (.i .i64 0))), (2, (.ptr 2 0)), (0, (vGTable p0)), (1, (.d (.i .i64 p1)))], [(2, [(.d (.s (bs p0.name))), (.d (.sl 2 (p0.cols.map cGCol)))])]⟩) (by kernel_rfl) ?_
    refine nil_in ?_
    refine next_in ?_
    refine seq_in ?_
    refine seq_in ?_
    refine ops_in ?_
    refine sts_ok 2 (s' := ⟨[(17, (.d (.b (decide (y1 < 0))))), (16, (.d (.i .i64 y1))), (1, (.d (.i .i64 y1))), (15, (.d (.i .i64 y1))), (14, (.d (.i .i64 (IntKind.wrap .i64 (p1 - (p0.name.length : Int)))))), (13, (.d (.sl 2 (p0.cols.map cGCol)))), (12, (.ptr 2 1)), (11, (.d (.b (decide ((IntKind.wrap .i64 (p1 - (p0.name.length : Int))) < 0))))), (10, (.d (.i .i64 (IntKind.wrap .i64 (p1 - (p0.name.length : Int)))))), (1, (.d (.i .i64 (IntKind.wrap .i64 (p1 - (p0.name.length : Int)))))), (9, (.d (.i .i64 (IntKind.wrap .i64 (p1 - (p0.name.length : Int)))))), (8, (.d (.i .i64 (p0.name.length : Int)))), (7, (.d (.s (bs p0.name)))), (6, (.ptr 2 0)), (5, (.d (.i .i64 p1))), (4, (.d (.i .i64 0))), (2, (.ptr 2 0)), (0, (vGTable p0)), (1, (.d (.i .i64 p1)))], [(2, [(.d (.s (bs p0.name))), (.d (.sl 2 (p0.cols.map cGCol)))])]⟩) (by kernel_rfl) ?_
    refine nil_in ?_
    refine next_in ?_
    refine cond_step h (by kernel_rfl) ?_ ?_
    · clear h; intro h
      refine seq_in ?_
      refine ops_in ?_
      refine sts_ok 1 (s' := ⟨[(4, (.d (.i .i64 (-1)))), (17, (.d (.b (decide (y1 < 0))))), (16, (.d (.i .i64 y1))), (1, (.d (.i .i64 y1))), (15, (.d (.i .i64 y1))), (14, (.d (.i .i64 (IntKind.wrap .i64 (p1 - (p0.name.length : Int)))))), (13, (.d (.sl 2 (p0.cols.map cGCol)))), (12, (.ptr 2 1)), (11, (.d (.b (decide ((IntKind.wrap .i64 (p1 - (p0.name.length : Int))) < 0))))), (10, (.d (.i .i64 (IntKind.wrap .i64 (p1 - (p0.name.length : Int)))))), (1, (.d (.i .i64 (IntKind.wrap .i64 (p1 - (p0.name.length : Int)))))), (9, (.d (.i .i64 (IntKind.wrap .i64 (p1 - (p0.name.length : Int)))))), (8, (.d (.i .i64 (p0.name.length : Int)))), (7, (.d (.s (bs p0.name)))), (6, (.ptr 2 0)), (5, (.d (.i .i64 p1))), (4, (.d (.i .i64 0))), (2, (.ptr 2 0)), (0, (vGTable p0)), (1, (.d (.i .i64 p1)))], [(2, [(.d (.s (bs p0.name))), (.d (.sl 2 (p0.cols.map cGCol)))])]⟩) (by kernel_rfl) ?_
      refine nil_in ?_
      refine next_in ?_
      refine ret_in ?_
      refine thenK_ret ?_
      have h := Option.some.inj h; subst h
      exact ret1_step (v := (.d (.i .i64 (-1)))) (by kernel_rfl) (by kernel_rfl) (by kernel_rfl)
    · clear h; intro h
      refine skip_in ?_
      refine next_in ?_
      refine seq_in ?_
      refine ops_in ?_
      refine sts_ok 2 (s' := ⟨[(4, (.d (.i .i64 y1))), (18, (.d (.i .i64 y1))), (17, (.d (.b (decide (y1 < 0))))), (16, (.d (.i .i64 y1))), (1, (.d (.i .i64 y1))), (15, (.d (.i .i64 y1))), (14, (.d (.i .i64 (IntKind.wrap .i64 (p1 - (p0.name.length : Int)))))), (13, (.d (.sl 2 (p0.cols.map cGCol)))), (12, (.ptr 2 1)), (11, (.d (.b (decide ((IntKind.wrap .i64 (p1 - (p0.name.length : Int))) < 0))))), (10, (.d (.i .i64 (IntKind.wrap .i64 (p1 - (p0.name.length : Int)))))), (1, (.d (.i .i64 (IntKind.wrap .i64 (p1 - (p0.name.length : Int)))))), (9, (.d (.i .i64 (IntKind.wrap .i64 (p1 - (p0.name.length : Int)))))), (8, (.d (.i .i64 (p0.name.length : Int)))), (7, (.d (.s (bs p0.name)))), (6, (.ptr 2 0)), (5, (.d (.i .i64 p1))), (4, (.d (.i .i64 0))), (2, (.ptr 2 0)), (0, (vGTable p0)), (1, (.d (.i .i64 p1)))], [(2, [(.d (.s (bs p0.name))), (.d (.sl 2 (p0.cols.map cGCol)))])]⟩) (by kernel_rfl) ?_
      refine nil_in ?_
      refine next_in ?_
      refine ret_in ?_
      have h := Option.some.inj h; subst h
      exact ret1_step (v := (.d (.i .i64 y1))) (by kernel_rfl) (by kernel_rfl) (by kernel_rfl)
theorem OKs_wSzTableS_L0 (p0 : (List GTable)) : (∀ (x1 : Int) (x5 : Int) (r : Int), wSzTableS_L0 p0 x1 x5 = some r → avc Try.prog acwSzTableS_L0 (qwSzTableS_1 r) (stwSzTableS_L0 p0 x1 x5)) := by
  refine wSzTableS_L0.partial_correctness p0 (fun x1 x5 r => avc Try.prog acwSzTableS_L0 (qwSzTableS_1 r) (stwSzTableS_L0 p0 x1 x5)) ?_
  · intro F_wSzTableS_L0 OK_wSzTableS_L0 x1 x5 r h
    delta acwSzTableS_L0
    refine loop_unroll ?_
    refine seq_in ?_
    refine seq_in ?_
    refine ops_in ?_
    refine sts_ok 2 (s' := ⟨(13, (.d (.sl 2 (p0.map cGTable)))) :: (12, (.d (.i .i64 x5))) :: (stwSzTableS_L0 p0 x1 x5).env, (stwSzTableS_L0 p0 x1 x5).bx⟩) (by kernel_rfl) ?_
    refine p_step (v' := (.d (.i .i64 (p0.length : Int)))) rfl rfl (vop_len (sz := 2) (l := p0) (f := cGTable) (by kernel_rfl) (by kernel_rfl)) ?_
    refine sts_ok 1 (s' := ⟨(15, (.d (.b (decide (x5 < (p0.length : Int)))))) :: (14, (.d (.i .i64 (p0.length : Int)))) :: (13, (.d (.sl 2 (p0.map cGTable)))) :: (12, (.d (.i .i64 x5))) :: (stwSzTableS_L0 p0 x1 x5).env, (stwSzTableS_L0 p0 x1 x5).bx⟩) (by kernel_rfl) ?_
    refine nil_in ?_
    refine next_in ?_
    refine cond_step h (by kernel_rfl) ?_ ?_
    · clear h; intro h
      refine skip_in ?_
      refine next_in ?_
      refine seq_in ?_
      refine block_in ?_
      refine seq_in ?_
      refine ops_in ?_
      refine sts_ok 2 (s' := ⟨(19, (.d (.i .i64 x5))) :: (18, (.d (.sl 2 (p0.map cGTable)))) :: (15, (.d (.b (decide (x5 < (p0.length : Int)))))) :: (14, (.d (.i .i64 (p0.length : Int)))) :: (13, (.d (.sl 2 (p0.map cGTable)))) :: (12, (.d (.i .i64 x5))) :: (stwSzTableS_L0 p0 x1 x5).env, (stwSzTableS_L0 p0 x1 x5).bx⟩) (by kernel_rfl) ?_
      refine v_step (m := idx p0 x5) (v' := fun y => (.rp [(.s (bs y.name)), (.sl 2 (y.cols.map cGCol))])) h rfl rfl (fun y hy => vop_ia (l := p0) (f := cGTable) (g := cGTable) (k := .i64) hy (fun _ => rfl) (by kernel_rfl) (by kernel_rfl) (by kernel_rfl)) ?_
      clear h; intro y1 h
      refine sts_ok 2 (s' := ⟨(22, (.d (.i .i64 x1))) :: (21, (vGTable y1)) :: (20, (.rp [(.s (bs y1.name)), (.sl 2 (y1.cols.map cGCol))])) :: (19, (.d (.i .i64 x5))) :: (18, (.d (.sl 2 (p0.map cGTable)))) :: (15, (.d (.b (decide (x5 < (p0.length : Int)))))) :: (14, (.d (.i .i64 (p0.length : Int)))) :: (13, (.d (.sl 2 (p0.map cGTable)))) :: (12, (.d (.i .i64 x5))) :: (stwSzTableS_L0 p0 x1 x5).env, (stwSzTableS_L0 p0 x1 x5).bx⟩) (by kernel_rfl) ?_
      refine call_step (m := wSzTable y1 x1) (args := [(vGTable y1), (.d (.i .i64 x1))]) (v' := (fun y => (.d (.i .i64 y)))) h (OK_wSzTable y1 x1) (by kernel_rfl) (by kernel_rfl) (fun _ => rfl) ?_
      clear h; intro y2 h
      refine sts_ok 1 (s' := ⟨(1, (.d (.i .i64 y2))) :: (23, (.d (.i .i64 y2))) :: (22, (.d (.i .i64 x1))) :: (21, (vGTable y1)) :: (20, (.rp [(.s (bs y1.name)), (.sl 2 (y1.cols.map cGCol))])) :: (19, (.d (.i .i64 x5))) :: (18, (.d (.sl 2 (p0.map cGTable)))) :: (15, (.d (.b (decide (x5 < (p0.length : Int)))))) :: (14, (.d (.i .i64 (p0.length : Int)))) :: (13, (.d (.sl 2 (p0.map cGTable)))) :: (12, (.d (.i .i64 x5))) :: (stwSzTableS_L0 p0 x1 x5).env, (stwSzTableS_L0 p0 x1 x5).bx⟩) (by kernel_rfl) ?_
      refine nil_in ?_
      refine next_in ?_
      refine seq_in ?_
      refine ops_in ?_
      refine sts_ok 2 (s' := ⟨(25, (.d (.b (decide (y2 < 0))))) :: (24, (.d (.i .i64 y2))) :: (1, (.d (.i .i64 y2))) :: (23, (.d (.i .i64 y2))) :: (22, (.d (.i .i64 x1))) :: (21, (vGTable y1)) :: (20, (.rp [(.s (bs y1.name)), (.sl 2 (y1.cols.map cGCol))])) :: (19, (.d (.i .i64 x5))) :: (18, (.d (.sl 2 (p0.map cGTable)))) :: (15, (.d (.b (decide (x5 < (p0.length : Int)))))) :: (14, (.d (.i .i64 (p0.length : Int)))) :: (13, (.d (.sl 2 (p0.map cGTable)))) :: (12, (.d (.i .i64 x5))) :: (stwSzTableS_L0 p0 x1 x5).env, (stwSzTableS_L0 p0 x1 x5).bx⟩) (by kernel_rfl) ?_
      refine nil_in ?_
      refine next_in ?_
      refine cond_step h (by kernel_rfl) ?_ ?_
      · clear h; intro h
        refine seq_in ?_
        refine ops_in ?_
        refine sts_ok 1 (s' := ⟨(4, (.d (.i .i64 (-1)))) :: (25, (.d (.b (decide (y2 < 0))))) :: (24, (.d (.i .i64 y2))) :: (1, (.d (.i .i64 y2))) :: (23, (.d (.i .i64 y2))) :: (22, (.d (.i .i64 x1))) :: (21, (vGTable y1)) :: (20, (.rp [(.s (bs y1.name)), (.sl 2 (y1.cols.map cGCol))])) :: (19, (.d (.i .i64 x5))) :: (18, (.d (.sl 2 (p0.map cGTable)))) :: (15, (.d (.b (decide (x5 < (p0.length : Int)))))) :: (14, (.d (.i .i64 (p0.length : Int)))) :: (13, (.d (.sl 2 (p0.map cGTable)))) :: (12, (.d (.i .i64 x5))) :: (stwSzTableS_L0 p0 x1 x5).env, (stwSzTableS_L0 p0 x1 x5).bx⟩) (by kernel_rfl) ?_
        refine nil_in ?_
        refine next_in ?_
        refine ret_in ?_
        refine blockK_ret ?_
        refine thenK_ret ?_
        refine thenK_ret ?_
        refine blockK_ret ?_
        refine thenK_ret ?_
        have h := Option.some.inj h; subst h
        exact ret1_step (v := (.d (.i .i64 (-1)))) (by kernel_rfl) (by kernel_rfl) (by kernel_rfl)
      · clear h; intro h
        refine skip_in ?_
        refine blockK_norm ?_
        refine next_in ?_
        refine ops_in ?_
        refine sts_ok 3 (s' := ⟨(5, (.d (.i .i64 (IntKind.wrap .i64 (x5 + 1))))) :: (17, (.d (.i .i64 (IntKind.wrap .i64 (x5 + 1))))) :: (16, (.d (.i .i64 x5))) :: (25, (.d (.b (decide (y2 < 0))))) :: (24, (.d (.i .i64 y2))) :: (1, (.d (.i .i64 y2))) :: (23, (.d (.i .i64 y2))) :: (22, (.d (.i .i64 x1))) :: (21, (vGTable y1)) :: (20, (.rp [(.s (bs y1.name)), (.sl 2 (y1.cols.map cGCol))])) :: (19, (.d (.i .i64 x5))) :: (18, (.d (.sl 2 (p0.map cGTable)))) :: (15, (.d (.b (decide (x5 < (p0.length : Int)))))) :: (14, (.d (.i .i64 (p0.length : Int)))) :: (13, (.d (.sl 2 (p0.map cGTable)))) :: (12, (.d (.i .i64 x5))) :: (stwSzTableS_L0 p0 x1 x5).env, (stwSzTableS_L0 p0 x1 x5).bx⟩) (by kernel_rfl) ?_
        refine nil_in ?_
        exact loop_back (s' := stwSzTableS_L0 p0 y2 (IntKind.wrap .i64 (x5 + 1))) (wk_ren [] (by kernel_rfl) (er_cons (vr_same (by kernel_rfl) (by kernel_rfl)) (er_cons (vr_same (by kernel_rfl) (by kernel_rfl)) (er_cons (vr_same (by kernel_rfl) (by kernel_rfl)) (er_nil)))) (br_nil)) (OK_wSzTableS_L0 y2 (IntKind.wrap .i64 (x5 + 1)) _ h)
    · clear h; intro h
      refine exit_in ?_
      refine thenK_exit ?_
      refine thenK_exit ?_
      refine blockK_here ?_
      refine next_in ?_
      refine seq_in ?_
      refine ops_in ?_
      refine sts_ok 2 (s' := ⟨(4, (.d (.i .i64 x1))) :: (26, (.d (.i .i64 x1))) :: (15, (.d (.b (decide (x5 < (p0.length : Int)))))) :: (14, (.d (.i .i64 (p0.length : Int)))) :: (13, (.d (.sl 2 (p0.map cGTable)))) :: (12, (.d (.i .i64 x5))) :: (stwSzTableS_L0 p0 x1 x5).env, (stwSzTableS_L0 p0 x1 x5).bx⟩) (by kernel_rfl) ?_
      refine nil_in ?_
      refine next_in ?_
      refine ret_in ?_
      have h := Option.some.inj h; subst h
      exact ret1_step (v := (.d (.i .i64 x1))) (by kernel_rfl) (by kernel_rfl) (by kernel_rfl)
theorem OK_wSzTableS_L0 (p0 : (List GTable)) (x1 : Int) (x5 : Int) (r : Int) (h : wSzTableS_L0 p0 x1 x5 = some r) : avc Try.prog acwSzTableS_L0 (qwSzTableS_1 r) (stwSzTableS_L0 p0 x1 x5) := (OKs_wSzTableS_L0 p0) x1 x5 r h
theorem OK_wSzTableS (p0 : (List GTable)) (p1 : Int) : FOk Try.prog 80 [(.d (.sl 2 (p0.map cGTable))), (.d (.i .i64 p1))] (fun y => (.d (.i .i64 y))) (wSzTableS p0 p1) := by
  intro r h
  rw [wSzTableS] at h
  refine acalls_of_fn trwSzTableS (Nat.le_of_ble_eq_true rfl) (by simp) ?_
  show avc Try.prog acwSzTableS (qwSzTableS _) ⟨[(0, (.d (.sl 2 (p0.map cGTable)))), (1, (.d (.i .i64 p1)))], []⟩
  delta acwSzTableS
  refine seq_in ?_
  refine ops_in ?_
  refine sts_ok 1 (s' := ⟨[(4, (.d (.i .i64 0))), (0, (.d (.sl 2 (p0.map cGTable)))), (1, (.d (.i .i64 p1)))], []⟩) (by kernel_rfl) ?_
  refine nil_in ?_
  refine next_in ?_
  refine seq_in ?_
  refine ops_in ?_
  refine sts_ok 2 (s' := ⟨[(7, (.d (.sl 2 (p0.map cGTable)))), (6, (.d (.i .i64 p1))), (4, (.d (.i .i64 0))), (0, (.d (.sl 2 (p0.map cGTable)))), (1, (.d (.i .i64 p1)))], []⟩) (by kernel_rfl) ?_
  refine p_step (v' := (.d (.i .i64 (p0.length : Int)))) rfl rfl (vop_len (sz := 2) (l := p0) (f := cGTable) (by kernel_rfl) (by kernel_rfl)) ?_
  refine sts_ok 2 (s' := ⟨[(1, (.d (.i .i64 (IntKind.wrap .i64 (p1 - (p0.length : Int)))))), (9, (.d (.i .i64 (IntKind.wrap .i64 (p1 - (p0.length : Int)))))), (8, (.d (.i .i64 (p0.length : Int)))), (7, (.d (.sl 2 (p0.map cGTable)))), (6, (.d (.i .i64 p1))), (4, (.d (.i .i64 0))), (0, (.d (.sl 2 (p0.map cGTable)))), (1, (.d (.i .i64 p1)))], []⟩) (by kernel_rfl) ?_
  refine nil_in ?_
  refine next_in ?_
  refine seq_in ?_
  refine seq_in ?_
  refine ops_in ?_
  refine sts_ok 2 (s' := ⟨[(11, (.d (.b (decide ((IntKind.wrap .i64 (p1 - (p0.length : Int))) < 0))))), (10, (.d (.i .i64 (IntKind.wrap .i64 (p1 - (p0.length : Int)))))), (1, (.d (.i .i64 (IntKind.wrap .i64 (p1 - (p0.length : Int)))))), (9, (.d (.i .i64 (IntKind.wrap .i64 (p1 - (p0.length : Int)))))), (8, (.d (.i .i64 (p0.length : Int)))), (7, (.d (.sl 2 (p0.map cGTable)))), (6, (.d (.i .i64 p1))), (4, (.d (.i .i64 0))), (0, (.d (.sl 2 (p0.map cGTable)))), (1, (.d (.i .i64 p1)))], []⟩) (by kernel_rfl) ?_
  refine nil_in ?_
  refine next_in ?_
  refine cond_step h (by kernel_rfl) ?_ ?_
  · clear h; intro h
    refine seq_in ?_
    refine ops_in ?_
    refine sts_ok 1 (s' := ⟨[(4, (.d (.i .i64 (-1)))), (11, (.d (.b (decide ((IntKind.wrap .i64 (p1 - (p0.length : Int))) < 0))))), (10, (.d (.i .i64 (IntKind.wrap .i64 (p1 - (p0.length : Int)))))), (1, (.d (.i .i64 (IntKind.wrap .i64 (p1 - (p0.length : Int)))))), (9, (.d (.i .i64 (IntKind.wrap .i64 (p1 - (p0.length : Int)))))), (8, (.d (.i .i64 (p0.length : Int)))), (7, (.d (.sl 2 (p0.map cGTable)))), (6, (.d (.i .i64 p1))), (4, (.d (.i .i64 0))), (0, (.d (.sl 2 (p0.map cGTable)))), (1, (.d (.i .i64 p1)))], []⟩) (by kernel_rfl) ?_
    refine nil_in ?_
    refine next_in ?_
    refine ret_in ?_
    refine thenK_ret ?_
    have h := Option.some.inj h; subst h
    exact ret1_step (v := (.d (.i .i64 (-1)))) (by kernel_rfl) (by kernel_rfl) (by kernel_rfl)
  · clear h; intro h
    refine skip_in ?_
    refine next_in ?_
    refine seq_in ?_
    refine seq_in ?_
    refine ops_in ?_
    refine sts_ok 1 (s' := ⟨[(5, (.d (.i .i64 0))), (11, (.d (.b (decide ((IntKind.wrap .i64 (p1 - (p0.length : Int))) < 0))))), (10, (.d (.i .i64 (IntKind.wrap .i64 (p1 - (p0.length : Int)))))), (1, (.d (.i .i64 (IntKind.wrap .i64 (p1 - (p0.length : Int)))))), (9, (.d (.i .i64 (IntKind.wrap .i64 (p1 - (p0.length : Int)))))), (8, (.d (.i .i64 (p0.length : Int)))), (7, (.d (.sl 2 (p0.map cGTable)))), (6, (.d (.i .i64 p1))), (4, (.d (.i .i64 0))), (0, (.d (.sl 2 (p0.map cGTable)))), (1, (.d (.i .i64 p1)))], []⟩) (by kernel_rfl) ?_
    refine nil_in ?_
    refine next_in ?_
    refine block_in ?_
    exact loop_go (s' := stwSzTableS_L0 p0 (IntKind.wrap .i64 (p1 - (p0.length : Int))) 0) (wk_ren [] (by kernel_rfl) (er_cons (vr_same (by kernel_rfl) (by kernel_rfl)) (er_cons (vr_same (by kernel_rfl) (by kernel_rfl)) (er_cons (vr_same (by kernel_rfl) (by kernel_rfl)) (er_nil)))) (br_nil)) (OK_wSzTableS_L0 p0 (IntKind.wrap .i64 (p1 - (p0.length : Int))) 0 _ h)
theorem OK_wSzCatalog (p0 : GCatalog) (p1 : Int) : FOk Try.prog 39 [(vGCatalog p0), (.d (.i .i64 p1))] (fun y => (.d (.i .i64 y))) (wSzCatalog p0 p1) := by
  intro r h
  rw [wSzCatalog] at h
  refine acalls_of_fn trwSzCatalog (Nat.le_of_ble_eq_true rfl) (by simp) ?_
  show avc Try.prog acwSzCatalog (qwSzCatalog _) ⟨[(0, (vGCatalog p0)), (1, (.d (.i .i64 p1)))], []⟩
  delta acwSzCatalog
  refine seq_in ?_
  refine ops_in ?_
  refine sts_ok 2 (s' := ⟨[(4, (.d (.i .i64 0))), (2, (.ptr 2 0)), (0, (vGCatalog p0)), (1, (.d (.i .i64 p1)))], [(2, [(.d (.sl 2 (p0.tables.map cGTable)))])]⟩) (by kernel_rfl) ?_
  refine nil_in ?_
  refine next_in ?_
  refine seq_in ?_
  refine ops_in ?_
  refine sts_ok 3 (s' := ⟨[(7, (.d (.i .i64 p1))), (6, (.d (.sl 2 (p0.tables.map cGTable)))), (5, (.ptr 2 0)), (4, (.d (.i .i64 0))), (2, (.ptr 2 0)), (0, (vGCatalog p0)), (1, (.d (.i .i64 p1)))], [(2, [(.d (.sl 2 (p0.tables.map cGTable)))])]⟩) (by kernel_rfl) ?_
  refine call_step (m := wSzTableS p0.tables p1) (args := [(.d (.sl 2 (p0.tables.map cGTable))), (.d (.i .i64 p1))]) (v' := (fun y => (.d (.i .i64 y)))) h (OK_wSzTableS p0.tables p1) (by kernel_rfl) (by kernel_rfl) (fun _ => rfl) ?_
  clear h; intro y1 h
  refine sts_ok 1 (s' := ⟨[(1, (.d (.i .i64 y1))), (8, (.d (.i .i64 y1))), (7, (.d (.i .i64 p1))), (6, (.d (.sl 2 (p0.tables.map cGTable)))), (5, (.ptr 2 0)), (4, (.d (.i .i64 0))), (2, (.ptr 2 0)), (0, (vGCatalog p0)), (1, (.d (.i .i64 p1)))], [(2, [(.d (.sl 2 (p0.tables.map cGTable)))])]⟩) (by kernel_rfl) ?_
  refine nil_in ?_
  refine next_in ?_
  refine seq_in ?_
  refine seq_in ?_
  refine ops_in ?_
  refine sts_ok 2 (s' := ⟨[(10, (.d (.b (decide (y1 < 0))))), (9, (.d (.i .i64 y1))), (1, (.d (.i .i64 y1))), (8, (.d (.i .i64 y1))), (7, (.d (.i .i64 p1))), (6, (.d (.sl 2 (p0.tables.map cGTable)))), (5, (.ptr 2 0)), (4, (.d (.i .i64 0))), (2, (.ptr 2 0)), (0, (vGCatalog p0)), (1, (.d (.i .i64 p1)))], [(2, [(.d (.sl 2 (p0.tables.map cGTable)))])]⟩) (by kernel_rfl) ?_
  refine nil_in ?_
  refine next_in ?_
  refine cond_step h (by kernel_rfl) ?_ ?_
  · clear h; intro h
    refine seq_in ?_
    refine ops_in ?_
    refine sts_ok 1 (s' := ⟨[(4, (.d (.i .i64 (-1)))), (10, (.d (.b (decide (y1 < 0))))), (9, (.d (.i .i64 y1))), (1, (.d (.i .i64 y1))), (8, (.d (.i .i64 y1))), (7, (.d (.i .i64 p1))), (6, (.d (.sl 2 (p0.tables.map cGTable)))), (5, (.ptr 2 0)), (4, (.d (.i .i64 0))), (2, (.ptr 2 0)), (0, (vGCatalog p0)), (1, (.d (.i .i64 p1)))], [(2, [(.d (.sl 2 (p0.tables.map cGTable)))])]⟩) (by kernel_rfl) ?_
    refine nil_in ?_
    refine next_in ?_
    refine ret_in ?_
    refine thenK_ret ?_
    have h := Option.some.inj h; subst h
    exact ret1_step (v := (.d (.i .i64 (-1)))) (by kernel_rfl) (by kernel_rfl) (by kernel_rfl)
  · clear h; intro h
    refine skip_in ?_
    refine next_in ?_
    refine seq_in ?_
    refine ops_in ?_
    refine sts_ok 2 (s' := ⟨[(4, (.d (.i .i64 y1))), (11, (.d (.i .i64 y1))), (10, (.d (.b (decide (y1 < 0))))), (9, (.d (.i .i64 y1))), (1, (.d (.i .i64 y1))), (8, (.d (.i .i64 y1))), (7, (.d (.i .i64 p1))), (6, (.d (.sl 2 (p0.tables.map cGTable)))), (5, (.ptr 2 0)), (4, (.d (.i .i64 0))), (2, (.ptr 2 0)), (0, (vGCatalog p0)), (1, (.d (.i .i64 p1)))], [(2, [(.d (.sl 2 (p0.tables.map cGTable)))])]⟩) (by kernel_rfl) ?_
    refine nil_in ?_
    refine next_in ?_
    refine ret_in ?_
    have h := Option.some.inj h; subst h
    exact ret1_step (v := (.d (.i .i64 y1))) (by kernel_rfl) (by kernel_rfl) (by kernel_rfl)
theorem OK_wSzValue (p0 : GValue) (p1 : Int) : FOk Try.prog 21 [(vGValue p0), (.d (.i .i64 p1))] (fun y => (.d (.i .i64 y))) (wSzValue p0 p1) := by
  intro r h
  rw [wSzValue] at h
  refine acalls_of_fn trwSzValue (Nat.le_of_ble_eq_true rfl) (by simp) ?_
  show avc Try.prog acwSzValue (qwSzValue _) ⟨[(0, (vGValue p0)), (1, (.d (.i .i64 p1)))], []⟩
  delta acwSzValue
  refine seq_in ?_
  refine ops_in ?_
  refine sts_ok 2 (s' := ⟨[(4, (.d (.i .i64 0))), (2, (.ptr 2 0)), (0, (vGValue p0)), (1, (.d (.i .i64 p1)))], [(2, [(.d (.i .i64 p0.kind)), (.d (.i .i64 p0.num)), (.d (.s (bs p0.text)))])]⟩) (by kernel_rfl) ?_
  refine nil_in ?_
  refine next_in ?_
  refine seq_in ?_
  refine ops_in ?_
  refine sts_ok 6 (s' := ⟨[(1, (.d (.i .i64 (IntKind.wrap .i64 (p1 - (p0.text.length : Int)))))), (9, (.d (.i .i64 (IntKind.wrap .i64 (p1 - (p0.text.length : Int)))))), (8, (.d (.i .i64 (p0.text.length : Int)))), (7, (.d (.s (bs p0.text)))), (6, (.ptr 2 2)), (5, (.d (.i .i64 p1))), (4, (.d (.i .i64 0))), (2, (.ptr 2 0)), (0, (vGValue p0)), (1, (.d (.i .i64 p1)))], [(2, [(.d (.i .i64 p0.kind)), (.d (.i .i64 p0.num)), (.d (.s (bs p0.text)))])]⟩) (by kernel_rfl) ?_
  refine nil_in ?_
  refine next_in ?_
  refine seq_in ?_
  refine seq_in ?_
  refine ops_in ?_
  refine sts_ok 2 (s' := ⟨[(11, (.d (.b (decide ((IntKind.wrap .i64 (p1 - (p0.text.length : Int))) < 0))))), (10, (.d (.i .i64 (IntKind.wrap .i64 (p1 - (p0.text.length : Int)))))), (1, (.d (.i .i64 (IntKind.wrap .i64 (p1 - (p0.text.length : Int)))))), (9, (.d (.i .i64 (IntKind.wrap .i64 (p1 - (p0.text.length : Int)))))), (8, (.d (.i .i64 (p0.text.length : Int)))), (7, (.d (.s (bs p0.text)))), (6, (.ptr 2 2)), (5, (.d (.i .i64 p1))), (4, (.d (.i .i64 0))), (2, (.ptr 2 0)), (0, (vGValue p0)), (1, (.d (.i .i64 p1)))], [(2, [(.d (.i .i64 p0.kind)), (.d (.i .i64 p0.num)), (.d (.s (bs p0.text)))])]⟩) (by kernel_rfl) ?_
  refine nil_in ?_
  refine next_in ?_
  refine cond_step h (by kernel_rfl) ?_ ?_
  · clear h; intro h
    refine seq_in ?_
    refine ops_in ?_
    refine sts_ok 1 (s' := ⟨[(4, (.d (.i .i64 (-1)))), (11, (.d (.b (decide ((IntKind.wrap .i64 (p1 - (p0.text.length : Int))) < 0))))), (10, (.d (.i .i64 (IntKind.wrap .i64 (p1 - (p0.text.length : Int)))))), (1, (.d (.i .i64 (IntKind.wrap .i64 (p1 - (p0.text.length : Int)))))), (9, (.d (.i .i64 (IntKind.wrap .i64 (p1 - (p0.text.length : Int)))))), (8, (.d (.i .i64 (p0.text.length : Int)))), (7, (.d (.s (bs p0.text)))), (6, (.ptr 2 2)), (5, (.d (.i .i64 p1))), (4, (.d (.i .i64 0))), (2, (.ptr 2 0)), (0, (vGValue p0)), (1, (.d (.i .i64 p1)))], [(2, [(.d (.i .i64 p0.kind)), (.d (.i .i64 p0.num)), (.d (.s (bs p0.text)))])]⟩) (by kernel_rfl) ?_
    refine nil_in ?_
    refine next_in ?_
    refine ret_in ?_
    refine thenK_ret ?_
    have h := Option.some.inj h; subst h
    exact ret1_step (v := (.d (.i .i64 (-1)))) (by kernel_rfl) (by kernel_rfl) (by kernel_rfl)
  · clear h; intro h
    refine skip_in ?_
    refine next_in ?_
    refine seq_in ?_
    refine ops_in ?_
    refine sts_ok 2 (s' := ⟨[(4, (.d (.i .i64 (IntKind.wrap .i64 (p1 - (p0.text.length : Int)))))), (12, (.d (.i .i64 (IntKind.wrap .i64 (p1 - (p0.text.length : Int)))))), (11, (.d (.b (decide ((IntKind.wrap .i64 (p1 - (p0.text.length : Int))) < 0))))), (10, (.d (.i .i64 (IntKind.wrap .i64 (p1 - (p0.text.length : Int)))))), (1, (.d (.i .i64 (IntKind.wrap .i64 (p1 - (p0.text.length : Int)))))), (9, (.d (.i .i64 (IntKind.wrap .i64 (p1 - (p0.text.length : Int)))))), (8, (.d (.i .i64 (p0.text.length : Int)))), (7, (.d (.s (bs p0.text)))), (6, (.ptr 2 2)), (5, (.d (.i .i64 p1))), (4, (.d (.i .i64 0))), (2, (.ptr 2 0)), (0, (vGValue p0)), (1, (.d (.i .i64 p1)))], [(2, [(.d (.i .i64 p0.kind)), (.d (.i .i64 p0.num)), (.d (.s (bs p0.text)))])]⟩) (by kernel_rfl) ?_
    refine nil_in ?_
    refine next_in ?_
    refine ret_in ?_
    have h := Option.some.inj h; subst h
    exact ret1_step (v := (.d (.i .i64 (IntKind.wrap .i64 (p1 - (p0.text.length : Int)))))) (by kernel_rfl) (by kernel_rfl) (by kernel_rfl)
theorem OKs_wSzValueS_L0 (p0 : (List GValue)) : (∀ (x1 : Int) (x5 : Int) (r : Int), wSzValueS_L0 p0 x1 x5 = some r → avc Try.prog acwSzValueS_L0 (qwSzValueS_1 r) (stwSzValueS_L0 p0 x1 x5)) := by
  refine wSzValueS_L0.partial_correctness p0 (fun x1 x5 r => avc Try.prog acwSzValueS_L0 (qwSzValueS_1 r) (stwSzValueS_L0 p0 x1 x5)) ?_
  · intro F_wSzValueS_L0 OK_wSzValueS_L0 x1 x5 r h
    delta acwSzValueS_L0
    refine loop_unroll ?_
    refine seq_in ?_
    refine seq_in ?_
    refine ops_in ?_
    refine sts_ok 2 (s' := ⟨(13, (.d (.sl 3 (p0.map cGValue)))) :: (12, (.d (.i .i64 x5))) :: (stwSzValueS_L0 p0 x1 x5).env, (stwSzValueS_L0 p0 x1 x5).bx⟩) (by kernel_rfl) ?_
    refine p_step (v' := (.d (.i .i64 (p0.length : Int)))) rfl rfl (vop_len (sz := 3) (l := p0) (f := cGValue) (by kernel_rfl) (by kernel_rfl)) ?_
    refine sts_ok 1 (s' := ⟨(15, (.d (.b (decide (x5 < (p0.length : Int)))))) :: (14, (.d (.i .i64 (p0.length : Int)))) :: (13, (.d (.sl 3 (p0.map cGValue)))) :: (12, (.d (.i .i64 x5))) :: (stwSzValueS_L0 p0 x1 x5).env, (stwSzValueS_L0 p0 x1 x5).bx⟩) (by kernel_rfl) ?_
    refine nil_in ?_
    refine next_in ?_
    refine cond_step h (by kernel_rfl) ?_ ?_
    · clear h; intro h
      refine skip_in ?_
      refine next_in ?_
      refine seq_in ?_
      refine block_in ?_
      refine seq_in ?_
      refine ops_in ?_
      refine sts_ok 2 (s' := ⟨(19, (.d (.i .i64 x5))) :: (18, (.d (.sl 3 (p0.map cGValue)))) :: (15, (.d (.b (decide (x5 < (p0.length : Int)))))) :: (14, (.d (.i .i64 (p0.length : Int)))) :: (13, (.d (.sl 3 (p0.map cGValue)))) :: (12, (.d (.i .i64 x5))) :: (stwSzValueS_L0 p0 x1 x5).env, (stwSzValueS_L0 p0 x1 x5).bx⟩) (by kernel_rfl) ?_
      refine v_step (m := idx p0 x5) (v' := fun y => (.rp [(.i .i64 y.kind), (.i .i64 y.num), (.s (bs y.text))])) h rfl rfl (fun y hy => vop_ia (l := p0) (f := cGValue) (g := cGValue) (k := .i64) hy (fun _ => rfl) (by kernel_rfl) (by kernel_rfl) (by kernel_rfl)) ?_
      clear h; intro y1 h
      refine sts_ok 2 (s' := ⟨(22, (.d (.i .i64 x1))) :: (21, (vGValue y1)) :: (20, (.rp [(.i .i64 y1.kind), (.i .i64 y1.num), (.s (bs y1.text))])) :: (19, (.d (.i .i64 x5))) :: (18, (.d (.sl 3 (p0.map cGValue)))) :: (15, (.d (.b (decide (x5 < (p0.length : Int)))))) :: (14, (.d (.i .i64 (p0.length : Int)))) :: (13, (.d (.sl 3 (p0.map cGValue)))) :: (12, (.d (.i .i64 x5))) :: (stwSzValueS_L0 p0 x1 x5).env, (stwSzValueS_L0 p0 x1 x5).bx⟩) (by kernel_rfl) ?_
      refine call_step (m := wSzValue y1 x1) (args := [(vGValue y1), (.d (.i .i64 x1))]) (v' := (fun y => (.d (.i .i64 y)))) h (OK_wSzValue y1 x1) (by kernel_rfl) (by kernel_rfl) (fun _ => rfl) ?_
      clear h; intro y2 h
      refine sts_ok 1 (s' := ⟨(1, (.d (.i .i64 y2))) :: (23, (.d (.i .i64 y2))) :: (22, (.d (.i .i64 x1))) :: (21, (vGValue y1)) :: (20, (.rp [(.i .i64 y1.kind), (.i .i64 y1.num), (.s (bs y1.text))])) :: (19, (.d (.i .i64 x5))) :: (18, (.d (.sl 3 (p0.map cGValue)))) :: (15, (.d (.b (decide (x5 < (p0.length : Int)))))) :: (14, (.d (.i .i64 (p0.length : Int)))) :: (13, (.d (.sl 3 (p0.map cGValue)))) :: (12, (.d (.i .i64 x5))) :: (stwSzValueS_L0 p0 x1 x5).env, (stwSzValueS_L0 p0 x1 x5).bx⟩) (by kernel_rfl) ?_
      refine nil_in ?_
      refine next_in ?_
      refine seq_in ?_
      refine ops_in ?_
      refine sts_ok 2 (s' := ⟨(25, (.d (.b (decide (y2 < 0))))) :: (24, (.d (.i .i64 y2))) :: (1, (.d (.i .i64 y2))) :: (23, (.d (.i .i64 y2))) :: (22, (.d (.i .i64 x1))) :: (21, (vGValue y1)) :: (20, (.rp [(.i .i64 y1.kind), (.i .i64 y1.num), (.s (bs y1.text))])) :: (19, (.d (.i .i64 x5))) :: (18, (.d (.sl 3 (p0.map cGValue)))) :: (15, (.d (.b (decide (x5 < (p0.length : Int)))))) :: (14, (.d (.i .i64 (p0.length : Int)))) :: (13, (.d (.sl 3 (p0.map cGValue)))) :: (12, (.d (.i .i64 x5))) :: (stwSzValueS_L0 p0 x1 x5).env, (stwSzValueS_L0 p0 x1 x5).bx⟩) (by kernel_rfl) ?_
      refine nil_in ?_
      refine next_in ?_
      refine cond_step h (by kernel_rfl) ?_ ?_
      · clear h; intro h
        refine seq_in ?_
        refine ops_in ?_
        refine sts_ok 1 (s' := ⟨(4, (.d (.i .i64 (-1)))) :: (25, (.d (.b (decide (y2 < 0))))) :: (24, (.d (.i .i64 y2))) :: (1, (.d (.i .i64 y2))) :: (23, (.d (.i .i64 y2))) :: (22, (.d (.i .i64 x1))) :: (21, (vGValue y1)) :: (20, (.rp [(.i .i64 y1.kind), (.i .i64 y1.num), (.s (bs y1.text))])) :: (19, (.d (.i .i64 x5))) :: (18, (.d (.sl 3 (p0.map cGValue)))) :: (15, (.d (.b (decide (x5 < (p0.length : Int)))))) :: (14, (.d (.i .i64 (p0.length : Int)))) :: (13, (.d (.sl 3 (p0.map cGValue)))) :: (12, (.d (.i .i64 x5))) :: (stwSzValueS_L0 p0 x1 x5).env, (stwSzValueS_L0 p0 x1 x5).bx⟩) (by kernel_rfl) ?_
        refine nil_in ?_
        refine next_in ?_
        refine ret_in ?_
        refine blockK_ret ?_
        refine thenK_ret ?_
        refine thenK_ret ?_
        refine blockK_ret ?_
        refine thenK_ret ?_
        have h := Option.some.inj h; subst h
        exact ret1_step (v := (.d (.i .i64 (-1)))) (by kernel_rfl) (by kernel_rfl) (by kernel_rfl)
      · clear h; intro h
        refine skip_in ?_
        refine blockK_norm ?_
        refine next_in ?_
        refine ops_in ?_
        refine sts_ok 3 (s' := ⟨(5, (.d (.i .i64 (IntKind.wrap .i64 (x5 + 1))))) :: (17, (.d (.i .i64 (IntKind.wrap .i64 (x5 + 1))))) :: (16, (.d (.i .i64 x5))) :: (25, (.d (.b (decide (y2 < 0))))) :: (24, (.d (.i .i64 y2))) :: (1, (.d (.i .i64 y2))) :: (23, (.d (.i .i64 y2))) :: (22, (.d (.i .i64 x1))) :: (21, (vGValue y1)) :: (20, (.rp [(.i .i64 y1.kind), (.i .i64 y1.num), (.s (bs y1.text))])) :: (19, (.d (.i .i64 x5))) :: (18, (.d (.sl 3 (p0.map cGValue)))) :: (15, (.d (.b (decide (x5 < (p0.length : Int)))))) :: (14, (.d (.i .i64 (p0.length : Int)))) :: (13, (.d (.sl 3 (p0.map cGValue)))) :: (12, (.d (.i .i64 x5))) :: (stwSzValueS_L0 p0 x1 x5).env, (stwSzValueS_L0 p0 x1 x5).bx⟩) (by kernel_rfl) ?_
        refine nil_in ?_
        exact loop_back (s' := stwSzValueS_L0 p0 y2 (IntKind.wrap .i64 (x5 + 1))) (wk_ren [] (by kernel_rfl) (er_cons (vr_same (by kernel_rfl) (by kernel_rfl)) (er_cons (vr_same (by kernel_rfl) (by kernel_rfl)) (er_cons (vr_same (by kernel_rfl) (by kernel_rfl)) (er_nil)))) (br_nil)) (OK_wSzValueS_L0 y2 (IntKind.wrap .i64 (x5 + 1)) _ h)
    · clear h; intro h
      refine exit_in ?_
      refine thenK_exit ?_
      refine thenK_exit ?_
      refine blockK_here ?_
      refine next_in ?_
      refine seq_in ?_
      refine ops_in ?_
      refine sts_ok 2 (s' := ⟨(4, (.d (.i .i64 x1))) :: (26, (.d (.i .i64 x1))) :: (15, (.d (.b (decide (x5 < (p0.length : Int)))))) :: (14, (.d (.i .i64 (p0.length : Int)))) :: (13, (.d (.sl 3 (p0.map cGValue)))) :: (12, (.d (.i .i64 x5))) :: (stwSzValueS_L0 p0 x1 x5).env, (stwSzValueS_L0 p0 x1 x5).bx⟩) (by kernel_rfl) ?_
      refine nil_in ?_
      refine next_in ?_
      refine ret_in ?_
      have h := Option.some.inj h; subst h
      exact ret1_step (v := (.d (.i .i64 x1))) (by kernel_rfl) (by kernel_rfl) (by kernel_rfl)
theorem OK_wSzValueS_L0 (p0 : (List GValue)) (x1 : Int) (x5 : Int) (r : Int) (h : wSzValueS_L0 p0 x1 x5 = some r) : avc Try.prog acwSzValueS_L0 (qwSzValueS_1 r) (stwSzValueS_L0 p0 x1 x5) := (OKs_wSzValueS_L0 p0) x1 x5 r h
theorem OK_wSzValueS (p0 : (List GValue)) (p1 : Int) : FOk Try.prog 30 [(.d (.sl 3 (p0.map cGValue))), (.d (.i .i64 p1))] (fun y => (.d (.i .i64 y))) (wSzValueS p0 p1) := by
  intro r h
  rw [wSzValueS] at h
  refine acalls_of_fn trwSzValueS (Nat.le_of_ble_eq_true rfl) (by simp) ?_
  show avc Try.prog acwSzValueS (qwSzValueS _) ⟨[(0, (.d (.sl 3 (p0.map cGValue)))), (1, (.d (.i .i64 p1)))], []⟩
  delta acwSzValueS
  refine seq_in ?_
  refine ops_in ?_
  refine sts_ok 1 (s' := ⟨[(4, (.d (.i .i64 0))), (0, (.d (.sl 3 (p0.map cGValue)))), (1, (.d (.i .i64 p1)))], []⟩) (by kernel_rfl) ?_
  refine nil_in ?_
  refine next_in ?_
  refine seq_in ?_
  refine ops_in ?_
  refine sts_ok 2 (s' := ⟨[(7, (.d (.sl 3 (p0.map cGValue)))), (6, (.d (.i .i64 p1))), (4, (.d (.i .i64 0))), (0, (.d (.sl 3 (p0.map cGValue)))), (1, (.d (.i .i64 p1)))], []⟩) (by kernel_rfl) ?_
  refine p_step (v' := (.d (.i .i64 (p0.length : Int)))) rfl rfl (vop_len (sz := 3) (l := p0) (f := cGValue) (by kernel_rfl) (by kernel_rfl)) ?_
  refine sts_ok 2 (s' := ⟨[(1, (.d (.i .i64 (IntKind.wrap .i64 (p1 - (p0.length : Int)))))), (9, (.d (.i .i64 (IntKind.wrap .i64 (p1 - (p0.length : Int)))))), (8, (.d (.i .i64 (p0.length : Int)))), (7, (.d (.sl 3 (p0.map cGValue)))), (6, (.d (.i .i64 p1))), (4, (.d (.i .i64 0))), (0, (.d (.sl 3 (p0.map cGValue)))), (1, (.d (.i .i64 p1)))], []⟩) (by kernel_rfl) ?_
  refine nil_in ?_
  refine next_in ?_
  refine seq_in ?_
  refine seq_in ?_
  refine ops_in ?_
  refine sts_ok 2 (s' := ⟨[(11, (.d (.b (decide ((IntKind.wrap .i64 (p1 - (p0.length : Int))) < 0))))), (10, (.d (.i .i64 (IntKind.wrap .i64 (p1 - (p0.length : Int)))))), (1, (.d (.i .i64 (IntKind.wrap .i64 (p1 - (p0.length : Int)))))), (9, (.d (.i .i64 (IntKind.wrap .i64 (p1 - (p0.length : Int)))))), (8, (.d (.i .i64 (p0.length : Int)))), (7, (.d (.sl 3 (p0.map cGValue)))), (6, (.d (.i .i64 p1))), (4, (.d (.i .i64 0))), (0, (.d (.sl 3 (p0.map cGValue)))), (1, (.d (.i .i64 p1)))], []⟩) (by kernel_rfl) ?_
  refine nil_in ?_
  refine next_in ?_
  refine cond_step h (by kernel_rfl) ?_ ?_
  · clear h; intro h
    refine seq_in ?_
    refine ops_in ?_
    refine sts_ok 1 (s' := ⟨[(4, (.d (.i .i64 (-1)))), (11, (.d (.b (decide ((IntKind.wrap .i64 (p1 - (p0.length : Int))) < 0))))), (10, (.d (.i .i64 (IntKind.wrap .i64 (p1 - (p0.length : Int)))))), (1, (.d (.i .i64 (IntKind.wrap .i64 (p1 - (p0.length : Int)))))), (9, (.d (.i .i64 (IntKind.wrap .i64 (p1 - (p0.length : Int)))))), (8, (.d (.i .i64 (p0.length : Int)))), (7, (.d (.sl 3 (p0.map cGValue)))), (6, (.d (.i .i64 p1))), (4, (.d (.i .i64 0))), (0, (.d (.sl 3 (p0.map cGValue)))), (1, (.d (.i .i64 p1)))], []⟩) (by kernel_rfl) ?_
    refine nil_in ?_
    refine next_in ?_
    refine ret_in ?_
    refine thenK_ret ?_
    have h := Option.some.inj h; subst h
    exact ret1_step (v := (.d (.i .i64 (-1)))) (by kernel_rfl) (by kernel_rfl) (by kernel_rfl)
  · clear h; intro h
    refine skip_in ?_
    refine next_in ?_
    refine seq_in ?_
    refine seq_in ?_
    refine ops_in ?_
    refine sts_ok 1 (s' := ⟨[(5, (.d (.i .i64 0))), (11, (.d (.b (decide ((IntKind.wrap .i64 (p1 - (p0.length : Int))) < 0))))), (10, (.d (.i .i64 (IntKind.wrap .i64 (p1 - (p0.length : Int)))))), (1, (.d (.i .i64 (IntKind.wrap .i64 (p1 - (p0.length : Int)))))), (9, (.d (.i .i64 (IntKind.wrap .i64 (p1 - (p0.length : Int)))))), (8, (.d (.i .i64 (p0.length : Int)))), (7, (.d (.sl 3 (p0.map cGValue)))), (6, (.d (.i .i64 p1))), (4, (.d (.i .i64 0))), (0, (.d (.sl 3 (p0.map cGValue)))), (1, (.d (.i .i64 p1)))], []⟩) (by kernel_rfl) ?_
    refine nil_in ?_
    refine next_in ?_
    refine block_in ?_
    exact loop_go (s' := stwSzValueS_L0 p0 (IntKind.wrap .i64 (p1 - (p0.length : Int))) 0) (wk_ren [] (by kernel_rfl) (er_cons (vr_same (by kernel_rfl) (by kernel_rfl)) (er_cons (vr_same (by kernel_rfl) (by kernel_rfl)) (er_cons (vr_same (by kernel_rfl) (by kernel_rfl)) (er_nil)))) (br_nil)) (OK_wSzValueS_L0 p0 (IntKind.wrap .i64 (p1 - (p0.length : Int))) 0 _ h)
theorem OKs_wSzValueSS_L0 (p0 : (List (List GValue))) : (∀ (x1 : Int) (x5 : Int) (r : Int), wSzValueSS_L0 p0 x1 x5 = some r → avc Try.prog acwSzValueSS_L0 (qwSzValueSS_1 r) (stwSzValueSS_L0 p0 x1 x5)) := by
  refine wSzValueSS_L0.partial_correctness p0 (fun x1 x5 r => avc Try.prog acwSzValueSS_L0 (qwSzValueSS_1 r) (stwSzValueSS_L0 p0 x1 x5)) ?_
  · intro F_wSzValueSS_L0 OK_wSzValueSS_L0 x1 x5 r h
    delta acwSzValueSS_L0
    refine loop_unroll ?_
    refine seq_in ?_
    refine seq_in ?_
    refine ops_in ?_
    refine sts_ok 2 (s' := ⟨(13, (.d (.sl 1 (p0.map (cSl 3 cGValue))))) :: (12, (.d (.i .i64 x5))) :: (stwSzValueSS_L0 p0 x1 x5).env, (stwSzValueSS_L0 p0 x1 x5).bx⟩) (by kernel_rfl) ?_
    refine p_step (v' := (.d (.i .i64 (p0.length : Int)))) rfl rfl (vop_len (sz := 1) (l := p0) (f := (cSl 3 cGValue)) (by kernel_rfl) (by kernel_rfl)) ?_
    refine sts_ok 1 (s' := ⟨(15, (.d (.b (decide (x5 < (p0.length : Int)))))) :: (14, (.d (.i .i64 (p0.length : Int)))) :: (13, (.d (.sl 1 (p0.map (cSl 3 cGValue))))) :: (12, (.d (.i .i64 x5))) :: (stwSzValueSS_L0 p0 x1 x5).env, (stwSzValueSS_L0 p0 x1 x5).bx⟩) (by kernel_rfl) ?_
    refine nil_in ?_
    refine next_in ?_
    refine cond_step h (by kernel_rfl) ?_ ?_
    · clear h; intro h
      refine skip_in ?_
      refine next_in ?_
      refine seq_in ?_
      refine block_in ?_
      refine seq_in ?_
      refine ops_in ?_
      refine sts_ok 2 (s' := ⟨(19, (.d (.i .i64 x5))) :: (18, (.d (.sl 1 (p0.map (cSl 3 cGValue))))) :: (15, (.d (.b (decide (x5 < (p0.length : Int)))))) :: (14, (.d (.i .i64 (p0.length : Int)))) :: (13, (.d (.sl 1 (p0.map (cSl 3 cGValue))))) :: (12, (.d (.i .i64 x5))) :: (stwSzValueSS_L0 p0 x1 x5).env, (stwSzValueSS_L0 p0 x1 x5).bx⟩) (by kernel_rfl) ?_
      refine v_step (m := idx p0 x5) (v' := fun y => (.rp [(.sl 3 (y.map cGValue))])) h rfl rfl (fun y hy => vop_ia (l := p0) (f := (cSl 3 cGValue)) (g := (cSl 3 cGValue)) (k := .i64) hy (fun _ => rfl) (by kernel_rfl) (by kernel_rfl) (by kernel_rfl)) ?_
      clear h; intro y1 h
      refine sts_ok 2 (s' := ⟨(22, (.d (.i .i64 x1))) :: (21, (.d (.sl 3 (y1.map cGValue)))) :: (20, (.rp [(.sl 3 (y1.map cGValue))])) :: (19, (.d (.i .i64 x5))) :: (18, (.d (.sl 1 (p0.map (cSl 3 cGValue))))) :: (15, (.d (.b (decide (x5 < (p0.length : Int)))))) :: (14, (.d (.i .i64 (p0.length : Int)))) :: (13, (.d (.sl 1 (p0.map (cSl 3 cGValue))))) :: (12, (.d (.i .i64 x5))) :: (stwSzValueSS_L0 p0 x1 x5).env, (stwSzValueSS_L0 p0 x1 x5).bx⟩) (by kernel_rfl) ?_
      refine call_step (m := wSzValueS y1 x1) (args := [(.d (.sl 3 (y1.map cGValue))), (.d (.i .i64 x1))]) (v' := (fun y => (.d (.i .i64 y)))) h (OK_wSzValueS y1 x1) (by kernel_rfl) (by kernel_rfl) (fun _ => rfl) ?_
      clear h; intro y2 h
      refine sts_ok 1 (s' := ⟨(1, (.d (.i .i64 y2))) :: (23, (.d (.i .i64 y2))) :: (22, (.d (.i .i64 x1))) :: (21, (.d (.sl 3 (y1.map cGValue)))) :: (20, (.rp [(.sl 3 (y1.map cGValue))])) :: (19, (.d (.i .i64 x5))) :: (18, (.d (.sl 1 (p0.map (cSl 3 cGValue))))) :: (15, (.d (.b (decide (x5 < (p0.length : Int)))))) :: (14, (.d (.i .i64 (p0.length : Int)))) :: (13, (.d (.sl 1 (p0.map (cSl 3 cGValue))))) :: (12, (.d (.i .i64 x5))) :: (stwSzValueSS_L0 p0 x1 x5).env, (stwSzValueSS_L0 p0 x1 x5).bx⟩) (by kernel_rfl) ?_
      refine nil_in ?_
      refine next_in ?_
      refine seq_in ?_
      refine ops_in ?_
      refine sts_ok 2 (s' := ⟨(25, (.d (.b (decide (y2 < 0))))) :: (24, (.d (.i .i64 y2))) :: (1, (.d (.i .i64 y2))) :: (23, (.d (.i .i64 y2))) :: (22, (.d (.i .i64 x1))) :: (21, (.d (.sl 3 (y1.map cGValue)))) :: (20, (.rp [(.sl 3 (y1.map cGValue))])) :: (19, (.d (.i .i64 x5))) :: (18, (.d (.sl 1 (p0.map (cSl 3 cGValue))))) :: (15, (.d (.b (decide (x5 < (p0.length : Int)))))) :: (14, (.d (.i .i64 (p0.length : Int)))) :: (13, (.d (.sl 1 (p0.map (cSl 3 cGValue))))) :: (12, (.d (.i .i64 x5))) :: (stwSzValueSS_L0 p0 x1 x5).env, (stwSzValueSS_L0 p0 x1 x5).bx⟩) (by kernel_rfl) ?_
      refine nil_in ?_
      refine next_in ?_
      refine cond_step h (by kernel_rfl) ?_ ?_
      · clear h; intro h
        refine seq_in ?_
        refine ops_in ?_
        refine sts_ok 1 (s' := ⟨(4, (.d (.i .i64 (-1)))) :: (25, (.d (.b (decide (y2 < 0))))) :: (24, (.d (.i .i64 y2))) :: (1, (.d (.i .i64 y2))) :: (23, (.d (.i .i64 y2))) :: (22, (.d (.i .i64 x1))) :: (21, (.d (.sl 3 (y1.map cGValue)))) :: (20, (.rp [(.sl 3 (y1.map cGValue))])) :: (19, (.d (.i .i64 x5))) :: (18, (.d (.sl 1 (p0.map (cSl 3 cGValue))))) :: (15, (.d (.b (decide (x5 < (p0.length : Int)))))) :: (14, (.d (.i .i64 (p0.length : Int)))) :: (13, (.d (.sl 1 (p0.map (cSl 3 cGValue))))) :: (12, (.d (.i .i64 x5))) :: (stwSzValueSS_L0 p0 x1 x5).env, (stwSzValueSS_L0 p0 x1 x5).bx⟩) (by kernel_rfl) ?_
        refine nil_in ?_
        refine next_in ?_
        refine ret_in ?_
        refine blockK_ret ?_
        refine thenK_ret ?_
        refine thenK_ret ?_
        refine blockK_ret ?_
        refine thenK_ret ?_
        have h := Option.some.inj h; subst h
        exact ret1_step (v := (.d (.i .i64 (-1)))) (by kernel_rfl) (by kernel_rfl) (by kernel_rfl)
      · clear h; intro h
        refine skip_in ?_
        refine blockK_norm ?_
        refine next_in ?_
        refine ops_in ?_
        refine sts_ok 3 (s' := ⟨(5, (.d (.i .i64 (IntKind.wrap .i64 (x5 + 1))))) :: (17, (.d (.i .i64 (IntKind.wrap .i64 (x5 + 1))))) :: (16, (.d (.i .i64 x5))) :: (25, (.d (.b (decide (y2 < 0))))) :: (24, (.d (.i .i64 y2))) :: (1, (.d (.i .i64 y2))) :: (23, (.d (.i .i64 y2))) :: (22, (.d (.i .i64 x1))) :: (21, (.d (.sl 3 (y1.map cGValue)))) :: (20, (.rp [(.sl 3 (y1.map cGValue))])) :: (19, (.d (.i .i64 x5))) :: (18, (.d (.sl 1 (p0.map (cSl 3 cGValue))))) :: (15, (.d (.b (decide (x5 < (p0.length : Int)))))) :: (14, (.d (.i .i64 (p0.length : Int)))) :: (13, (.d (.sl 1 (p0.map (cSl 3 cGValue))))) :: (12, (.d (.i .i64 x5))) :: (stwSzValueSS_L0 p0 x1 x5).env, (stwSzValueSS_L0 p0 x1 x5).bx⟩) (by kernel_rfl) ?_
        refine nil_in ?_
        exact loop_back (s' := stwSzValueSS_L0 p0 y2 (IntKind.wrap .i64 (x5 + 1))) (wk_ren [] (by kernel_rfl) (er_cons (vr_same (by kernel_rfl) (by kernel_rfl)) (er_cons (vr_same (by kernel_rfl) (by kernel_rfl)) (er_cons (vr_same (by kernel_rfl) (by kernel_rfl)) (er_nil)))) (br_nil)) (OK_wSzValueSS_L0 y2 (IntKind.wrap .i64 (x5 + 1)) _ h)
    · clear h; intro h
      refine exit_in ?_
      refine thenK_exit ?_
      refine thenK_exit ?_
      refine blockK_here ?_
      refine next_in ?_
      refine seq_in ?_
      refine ops_in ?_
      refine sts_ok 2 (s' := ⟨(4, (.d (.i .i64 x1))) :: (26, (.d (.i .i64 x1))) :: (15, (.d (.b (decide (x5 < (p0.length : Int)))))) :: (14, (.d (.i .i64 (p0.length : Int)))) :: (13, (.d (.sl 1 (p0.map (cSl 3 cGValue))))) :: (12, (.d (.i .i64 x5))) :: (stwSzValueSS_L0 p0 x1 x5).env, (stwSzValueSS_L0 p0 x1 x5).bx⟩) (by kernel_rfl) ?_
      refine nil_in ?_
      refine next_in ?_
      refine ret_in ?_
      have h := Option.some.inj h; subst h
      exact ret1_step (v := (.d (.i .i64 x1))) (by kernel_rfl) (by kernel_rfl) (by kernel_rfl)
theorem OK_wSzValueSS_L0 (p0 : (List (List GValue))) (x1 : Int) (x5 : Int) (r : Int) (h : wSzValueSS_L0 p0 x1 x5 = some r) : avc Try.prog acwSzValueSS_L0 (qwSzValueSS_1 r) (stwSzValueSS_L0 p0 x1 x5) := (OKs_wSzValueSS_L0 p0) x1 x5 r h
theorem OK_wSzValueSS (p0 : (List (List GValue))) (p1 : Int) : FOk Try.prog 196 [(.d (.sl 1 (p0.map (cSl 3 cGValue)))), (.d (.i .i64 p1))] (fun y => (.d (.i .i64 y))) (wSzValueSS p0 p1) := by
  intro r h
  rw [wSzValueSS] at h
  refine acalls_of_fn trwSzValueSS (Nat.le_of_ble_eq_true rfl) (by simp) ?_
  show avc Try.prog acwSzValueSS (qwSzValueSS _) ⟨[(0, (.d (.sl 1 (p0.map (cSl 3 cGValue))))), (1, (.d (.i .i64 p1)))], []⟩
  delta acwSzValueSS
  refine seq_in ?_
  refine ops_in ?_
  refine sts_ok 1 (s' := ⟨[(4, (.d (.i .i64 0))), (0, (.d (.sl 1 (p0.map (cSl 3 cGValue))))), (1, (.d (.i .i64 p1)))], []⟩) (by kernel_rfl) ?_
  refine nil_in ?_
  refine next_in ?_
  refine seq_in ?_
  refine ops_in ?_
  refine sts_ok 2 (s' := ⟨[(7, (.d (.sl 1 (p0.map (cSl 3 cGValue))))), (6, (.d (.i .i64 p1))), (4, (.d (.i .i64 0))), (0, (.d (.sl 1 (p0.map (cSl 3 cGValue))))), (1, (.d (.i .i64 p1)))], []⟩) (by kernel_rfl) ?_
  refine p_step (v' := (.d (.i .i64 (p0.length : Int)))) rfl rfl (vop_len (sz := 1) (l := p0) (f := (cSl 3 cGValue)) (by kernel_rfl) (by kernel_rfl)) ?_
  refine sts_ok 2 (s' := ⟨[(1, (.d (.i .i64 (IntKind.wrap .i64 (p1 - (p0.length : Int)))))), (9, (.d (.i .i64 (IntKind.wrap .i64 (p1 - (p0.length : Int)))))), (8, (.d (.i .i64 (p0.length : Int)))), (7, (.d (.sl 1 (p0.map (cSl 3 cGValue))))), (6, (.d (.i .i64 p1))), (4, (.d (.i .i64 0))), (0, (.d (.sl 1 (p0.map (cSl 3 cGValue))))), (1, (.d (.i .i64 p1)))], []⟩) (by kernel_rfl) ?_
  refine nil_in ?_
  refine next_in ?_
  refine seq_in ?_
  refine seq_in ?_
  refine ops_in ?_
  refine sts_ok 2 (s' := ⟨[(11, (.d (.b (decide ((IntKind.wrap .i64 (p1 - (p0.length : Int))) < 0))))), (10, (.d (.i .i64 (IntKind.wrap .i64 (p1 - (p0.length : Int)))))), (1, (.d (.i .i64 (IntKind.wrap .i64 (p1 - (p0.length : Int)))))), (9, (.d (.i .i64 (IntKind.wrap .i64 (p1 - (p0.length : Int)))))), (8, (.d (.i .i64 (p0.length : Int)))), (7, (.d (.sl 1 (p0.map (cSl 3 cGValue))))), (6, (.d (.i .i64 p1))), (4, (.d (.i .i64 0))), (0, (.d (.sl 1 (p0.map (cSl 3 cGValue))))), (1, (.d (.i .i64 p1)))], []⟩) (by kernel_rfl) ?_
  refine nil_in ?_
  refine next_in ?_
  refine cond_step h (by kernel_rfl) ?_ ?_
  · clear h; intro h
    refine seq_in ?_
    refine ops_in ?_
    refine sts_ok 1 (s' := ⟨[(4, (.d (.i .i64 (-1)))), (11, (.d (.b (decide ((IntKind.wrap .i64 (p1 - (p0.length : Int))) < 0))))), (10, (.d (.i .i64 (IntKind.wrap .i64 (p1 - (p0.length : Int)))))), (1, (.d (.i .i64 (IntKind.wrap .i64 (p1 - (p0.length : Int)))))), (9, (.d (.i .i64 (IntKind.wrap .i64 (p1 - (p0.length : Int)))))), (8, (.d (.i .i64 (p0.length : Int)))), (7, (.d (.sl 1 (p0.map (cSl 3 cGValue))))), (6, (.d (.i .i64 p1))), (4, (.d (.i .i64 0))), (0, (.d (.sl 1 (p0.map (cSl 3 cGValue))))), (1, (.d (.i .i64 p1)))], []⟩) (by kernel_rfl) ?_
    refine nil_in ?_
    refine next_in ?_
    refine ret_in ?_
    refine thenK_ret ?_
    have h := Option.some.inj h; subst h
    exact ret1_step (v := (.d (.i .i64 (-1)))) (by kernel_rfl) (by kernel_rfl) (by kernel_rfl)
  · clear h; intro h
    refine skip_in ?_
    refine next_in ?_
    refine seq_in ?_
    refine seq_in ?_
    refine ops_in ?_
    refine sts_ok 1 (s' := ⟨[(5, (.d (.i .i64 0))), (11, (.d (.b (decide ((IntKind.wrap .i64 (p1 - (p0.length : Int))) < 0))))), (10, (.d (.i .i64 (IntKind.wrap .i64 (p1 - (p0.length : Int)))))), (1, (.d (.i .i64 (IntKind.wrap .i64 (p1 - (p0.length : Int)))))), (9, (.d (.i .i64 (IntKind.wrap .i64 (p1 - (p0.length : Int)))))), (8, (.d (.i .i64 (p0.length : Int)))), (7, (.d (.sl 1 (p0.map (cSl 3 cGValue))))), (6, (.d (.i .i64 p1))), (4, (.d (.i .i64 0))), (0, (.d (.sl 1 (p0.map (cSl 3 cGValue))))), (1, (.d (.i .i64 p1)))], []⟩) (by kernel_rfl) ?_
    refine nil_in ?_
    refine next_in ?_
    refine block_in ?_
    exact loop_go (s' := stwSzValueSS_L0 p0 (IntKind.wrap .i64 (p1 - (p0.length : Int))) 0) (wk_ren [] (by kernel_rfl) (er_cons (vr_same (by kernel_rfl) (by kernel_rfl)) (er_cons (vr_same (by kernel_rfl) (by kernel_rfl)) (er_cons (vr_same (by kernel_rfl) (by kernel_rfl)) (er_nil)))) (br_nil)) (OK_wSzValueSS_L0 p0 (IntKind.wrap .i64 (p1 - (p0.length : Int))) 0 _ h)
theorem OK_wSzData (p0 : GData) (p1 : Int) : FOk Try.prog 154 [(vGData p0), (.d (.i .i64 p1))] (fun y => (.d (.i .i64 y))) (wSzData p0 p1) := by
  intro r h
  rw [wSzData] at h
  refine acalls_of_fn trwSzData (Nat.le_of_ble_eq_true rfl) (by simp) ?_
  show avc Try.prog acwSzData (qwSzData _) ⟨[(0, (vGData p0)), (1, (.d (.i .i64 p1)))], []⟩
  delta acwSzData
  refine seq_in ?_
  refine ops_in ?_
  refine sts_ok 2 (s' := ⟨[(4, (.d (.i .i64 0))), (2, (.ptr 2 0)), (0, (vGData p0)), (1, (.d (.i .i64 p1)))], [(2, [(.d (.sl 1 (p0.rows.map (cSl 3 cGValue))))])]⟩) (by kernel_rfl) ?_
  refine nil_in ?_
  refine next_in ?_
  refine seq_in ?_
  refine ops_in ?_
  refine sts_ok 3 (s' := ⟨[(7, (.d (.i .i64 p1))), (6, (.d (.sl 1 (p0.rows.map (cSl 3 cGValue))))), (5, (.ptr 2 0)), (4, (.d (.i .i64 0))), (2, (.ptr 2 0)), (0, (vGData p0)), (1, (.d (.i .i64 p1)))], [(2, [(.d (.sl 1 (p0.rows.map (cSl 3 cGValue))))])]⟩) (by kernel_rfl) ?_
  refine call_step (m := wSzValueSS p0.rows p1) (args := [(.d (.sl 1 (p0.rows.map (cSl 3 cGValue)))), (.d (.i .i64 p1))]) (v' := (fun y => (.d (.i .i64 y)))) h (OK_wSzValueSS p0.rows p1) (by kernel_rfl) (by kernel_rfl) (fun _ => rfl) ?_
  clear h; intro y1 h
  refine sts_ok 1 (s' := ⟨[(1, (.d (.i .i64 y1))), (8, (.d (.i .i64 y1))), (7, (.d (.i .i64 p1))), (6, (.d (.sl 1 (p0.rows.map (cSl 3 cGValue))))), (5, (.ptr 2 0)), (4, (.d (.i .i64 0))), (2, (.ptr 2 0)), (0, (vGData p0)), (1, (.d (.i .i64 p1)))], [(2, [(.d (.sl 1 (p0.rows.map (cSl 3 cGValue))))])]⟩) (by kernel_rfl) ?_
  refine nil_in ?_
  refine next_in ?_
  refine seq_in ?_
  refine seq_in ?_
  refine ops_in ?_
  refine sts_ok 2 (s' := ⟨[(10, (.d (.b (decide (y1 < 0))))), (9, (.d (.i .i64 y1))), (1, (.d (.i .i64 y1))), (8, (.d (.i .i64 y1))), (7, (.d (.i .i64 p1))), (6, (.d (.sl 1 (p0.rows.map (cSl 3 cGValue))))), (5, (.ptr 2 0)), (4, (.d (.i .i64 0))), (2, (.ptr 2 0)), (0, (vGData p0)), (1, (.d (.i .i64 p1)))], [(2, [(.d (.sl 1 (p0.rows.map (cSl 3 cGValue))))])]⟩) (by kernel_rfl) ?_
  refine nil_in ?_
  refine next_in ?_
  refine cond_step h (by kernel_rfl) ?_ ?_
  · clear h; intro h
    refine seq_in ?_
    refine ops_in ?_
    refine sts_ok 1 (s' := ⟨[(4, (.d (.i .i64 (-1)))), (10, (.d (.b (decide (y1 < 0))))), (9, (.d (.i .i64 y1))), (1, (.d (.i .i64 y1))), (8, (.d (.i .i64 y1))), (7, (.d (.i .i64 p1))), (6, (.d (.sl 1 (p0.rows.map (cSl 3 cGValue))))), (5, (.ptr 2 0)), (4, (.d (.i .i64 0))), (2, (.ptr 2 0)), (0, (vGData p0)), (1, (.d (.i .i64 p1)))], [(2, [(.d (.sl 1 (p0.rows.map (cSl 3 cGValue))))])]⟩) (by kernel_rfl) ?_
    refine nil_in ?_
    refine next_in ?_
    refine ret_in ?_
    refine thenK_ret ?_
    have h := Option.some.inj h; subst h
    exact ret1_step (v := (.d (.i .i64 (-1)))) (by kernel_rfl) (by kernel_rfl) (by kernel_rfl)
  · clear h; intro h
    refine skip_in ?_
    refine next_in ?_
    refine seq_in ?_
    refine ops_in ?_
    refine sts_ok 2 (s' := ⟨[(4, (.d (.i .i64 y1))), (11, (.d (.i .i64 y1))), (10, (.d (.b (decide (y1 < 0))))), (9, (.d (.i .i64 y1))), (1, (.d (.i .i64 y1))), (8, (.d (.i .i64 y1))), (7, (.d (.i .i64 p1))), (6, (.d (.sl 1 (p0.rows.map (cSl 3 cGValue))))), (5, (.ptr 2 0)), (4, (.d (.i .i64 0))), (2, (.ptr 2 0)), (0, (vGData p0)), (1, (.d (.i .i64 p1)))], [(2, [(.d (.sl 1 (p0.rows.map (cSl 3 cGValue))))])]⟩) (by kernel_rfl) ?_
    refine nil_in ?_
    refine next_in ?_
    refine ret_in ?_
    have h := Option.some.inj h; subst h
    exact ret1_step (v := (.d (.i .i64 y1))) (by kernel_rfl) (by kernel_rfl) (by kernel_rfl)
theorem OKs_wSzDataS_L0 (p0 : (List GData)) : (∀ (x1 : Int) (x5 : Int) (r : Int), wSzDataS_L0 p0 x1 x5 = some r → avc Try.prog acwSzDataS_L0 (qwSzDataS_1 r) (stwSzDataS_L0 p0 x1 x5)) := by
  refine wSzDataS_L0.partial_correctness p0 (fun x1 x5 r => avc Try.prog acwSzDataS_L0 (qwSzDataS_1 r) (stwSzDataS_L0 p0 x1 x5)) ?_
  · intro F_wSzDataS_L0 OK_wSzDataS_L0 x1 x5 r h
    delta acwSzDataS_L0
    refine loop_unroll ?_
    refine seq_in ?_
    refine seq_in ?_
    refine ops_in ?_
    refine sts_ok 2 (s' := ⟨(13, (.d (.sl 1 (p0.map cGData)))) :: (12, (.d (.i .i64 x5))) :: (stwSzDataS_L0 p0 x1 x5).env, (stwSzDataS_L0 p0 x1 x5).bx⟩) (by kernel_rfl) ?_
    refine p_step (v' := (.d (.i .i64 (p0.length : Int)))) rfl rfl (vop_len (sz := 1) (l := p0) (f := cGData) (by kernel_rfl) (by kernel_rfl)) ?_
    refine sts_ok 1 (s' := ⟨(15, (.d (.b (decide (x5 < (p0.length : Int)))))) :: (14, (.d (.i .i64 (p0.length : Int)))) :: (13, (.d (.sl 1 (p0.map cGData)))) :: (12, (.d (.i .i64 x5))) :: (stwSzDataS_L0 p0 x1 x5).env, (stwSzDataS_L0 p0 x1 x5).bx⟩) (by kernel_rfl) ?_
    refine nil_in ?_
    refine next_in ?_
    refine cond_step h (by kernel_rfl) ?_ ?_
    · clear h; intro h
      refine skip_in ?_
      refine next_in ?_
      refine seq_in ?_
      refine block_in ?_
      refine seq_in ?_
      refine ops_in ?_
      refine sts_ok 2 (s' := ⟨(19, (.d (.i .i64 x5))) :: (18, (.d (.sl 1 (p0.map cGData)))) :: (15, (.d (.b (decide (x5 < (p0.length : Int)))))) :: (14, (.d (.i .i64 (p0.length : Int)))) :: (13, (.d (.sl 1 (p0.map cGData)))) :: (12, (.d (.i .i64 x5))) :: (stwSzDataS_L0 p0 x1 x5).env, (stwSzDataS_L0 p0 x1 x5).bx⟩) (by kernel_rfl) ?_
      refine v_step (m := idx p0 x5) (v' := fun y => (.rp [(.sl 1 (y.rows.map (cSl 3 cGValue)))])) h rfl rfl (fun y hy => vop_ia (l := p0) (f := cGData) (g := cGData) (k := .i64) hy (fun _ => rfl) (by kernel_rfl) (by kernel_rfl) (by kernel_rfl)) ?_
      clear h; intro y1 h
      refine sts_ok 2 (s' := ⟨(22, (.d (.i .i64 x1))) :: (21, (vGData y1)) :: (20, (.rp [(.sl 1 (y1.rows.map (cSl 3 cGValue)))])) :: (19, (.d (.i .i64 x5))) :: (18, (.d (.sl 1 (p0.map cGData)))) :: (15, (.d (.b (decide (x5 < (p0.length : Int)))))) :: (14, (.d (.i .i64 (p0.length : Int)))) :: (13, (.d (.sl 1 (p0.map cGData)))) :: (12, (.d (.i .i64 x5))) :: (stwSzDataS_L0 p0 x1 x5).env, (stwSzDataS_L0 p0 x1 x5).bx⟩) (by kernel_rfl) ?_
      refine call_step (m := wSzData y1 x1) (args := [(vGData y1), (.d (.i .i64 x1))]) (v' := (fun y => (.d (.i .i64 y)))) h (OK_wSzData y1 x1) (by kernel_rfl) (by kernel_rfl) (fun _ => rfl) ?_
      clear h; intro y2 h
      refine sts_ok 1 (s' := ⟨(1, (.d (.i .i64 y2))) :: (23, (.d (.i .i64 y2))) :: (22, (.d (.i .i64 x1))) :: (21, (vGData y1)) :: (20, (.rp [(.sl 1 (y1.rows.map (cSl 3 cGValue)))])) :: (19, (.d (.i .i64 x5))) :: (18, (.d (.sl 1 (p0.map cGData)))) :: (15, (.d (.b (decide (x5 < (p0.length : Int)))))) :: (14, (.d (.i .i64 (p0.length : Int)))) :: (13, (.d (.sl 1 (p0.map cGData)))) :: (12, (.d (.i .i64 x5))) :: (stwSzDataS_L0 p0 x1 x5).env, (stwSzDataS_L0 p0 x1 x5).bx⟩) (by kernel_rfl) ?_
      refine nil_in ?_
      refine next_in ?_
      refine seq_in ?_
      refine ops_in ?_
      refine sts_ok 2 (s' := ⟨(25, (.d (.b (decide (y2 < 0))))) :: (24, (.d (.i .i64 y2))) :: (1, (.d (.i .i64 y2))) :: (23, (.d (.i .i64 y2))) :: (22, (.d (.i .i64 x1))) :: (21, (vGData y1)) :: (20, (.rp [(.sl 1 (y1.rows.map (cSl 3 cGValue)))])) :: (19, (.d (.i .i64 x5))) :: (18, (.d (.sl 1 (p0.map cGData)))) :: (15, (.d (.b (decide (x5 < (p0.length : Int)))))) :: (14, (.d (.i .i64 (p0.length : Int)))) :: (13, (.d (.sl 1 (p0.map cGData)))) :: (12, (.d (.i .i64 x5))) :: (stwSzDataS_L0 p0 x1 x5).env, (stwSzDataS_L0 p0 x1 x5).bx⟩) (by kernel_rfl) ?_
      refine nil_in ?_
      refine next_in ?_
      refine cond_step h (by kernel_rfl) ?_ ?_
      · clear h; intro h
        refine seq_in ?_
        refine ops_in ?_
        refine sts_ok 1 (s' := ⟨(4, (.d (.i .i64 (-1)))) :: (25, (.d (.b (decide (y2 < 0))))) :: (24, (.d (.i .i64 y2))) :: (1, (.d (.i .i64 y2))) :: (23, (.d (.i .i64 y2))) :: (22, (.d (.i .i64 x1))) :: (21, (vGData y1)) :: (20, (.rp [(.sl 1 (y1.rows.map (cSl 3 cGValue)))])) :: (19, (.d (.i .i64 x5))) :: (18, (.d (.sl 1 (p0.map cGData)))) :: (15, (.d (.b (decide (x5 < (p0.length : Int)))))) :: (14, (.d (.i .i64 (p0.length : Int)))) :: (13, (.d (.sl 1 (p0.map cGData)))) :: (12, (.d (.i .i64 x5))) :: (stwSzDataS_L0 p0 x1 x5).env, (stwSzDataS_L0 p0 x1 x5).bx⟩) (by kernel_rfl) ?_
        refine nil_in ?_
        refine next_in ?_
        refine ret_in ?_
        refine blockK_ret ?_
        refine thenK_ret ?_
        refine thenK_ret ?_
        refine blockK_ret ?_
        refine thenK_ret ?_
        have h := Option.some.inj h; subst h
        exact ret1_step (v := (.d (.i .i64 (-1)))) (by kernel_rfl) (by kernel_rfl) (by kernel_rfl)
      · clear h; intro h
        refine skip_in ?_
        refine blockK_norm ?_
        refine next_in ?_
        refine ops_in ?_
        refine sts_ok 3 (s' := ⟨(5, (.d (.i .i64 (IntKind.wrap .i64 (x5 + 1))))) :: (17, (.d (.i .i64 (IntKind.wrap .i64 (x5 + 1))))) :: (16, (.d (.i .i64 x5))) :: (25, (.d (.b (decide (y2 < 0))))) :: (24, (.d (.i .i64 y2))) :: (1, (.d (.i .i64 y2))) :: (23, (.d (.i .i64 y2))) :: (22, (.d (.i .i64 x1))) :: (21, (vGData y1)) :: (20, (.rp [(.sl 1 (y1.rows.map (cSl 3 cGValue)))])) :: (19, (.d (.i .i64 x5))) :: (18, (.d (.sl 1 (p0.map cGData)))) :: (15, (.d (.b (decide (x5 < (p0.length : Int)))))) :: (14, (.d (.i .i64 (p0.length : Int)))) :: (13, (.d (.sl 1 (p0.map cGData)))) :: (12, (.d (.i .i64 x5))) :: (stwSzDataS_L0 p0 x1 x5).env, (stwSzDataS_L0 p0 x1 x5).bx⟩) (by kernel_rfl) ?_
        refine nil_in ?_
        exact loop_back (s' := stwSzDataS_L0 p0 y2 (IntKind.wrap .i64 (x5 + 1))) (wk_ren [] (by kernel_rfl) (er_cons (vr_same (by kernel_rfl) (by kernel_rfl)) (er_cons (vr_same (by kernel_rfl) (by kernel_rfl)) (er_cons (vr_same (by kernel_rfl) (by kernel_rfl)) (er_nil)))) (br_nil)) (OK_wSzDataS_L0 y2 (IntKind.wrap .i64 (x5 + 1)) _ h)
    · clear h; intro h
      refine exit_in ?_
      refine thenK_exit ?_
      refine thenK_exit ?_
      refine blockK_here ?_
      refine next_in ?_
      refine seq_in ?_
      refine ops_in ?_
      refine sts_ok 2 (s' := ⟨(4, (.d (.i .i64 x1))) :: (26, (.d (.i .i64 x1))) :: (15, (.d (.b (decide (x5 < (p0.length : Int)))))) :: (14, (.d (.i .i64 (p0.length : Int)))) :: (13, (.d (.sl 1 (p0.map cGData)))) :: (12, (.d (.i .i64 x5))) :: (stwSzDataS_L0 p0 x1 x5).env, (stwSzDataS_L0 p0 x1 x5).bx⟩) (by kernel_rfl) ?_
      refine nil_in ?_
      refine next_in ?_
      refine ret_in ?_
      have h := Option.some.inj h; subst h
      exact ret1_step (v := (.d (.i .i64 x1))) (by kernel_rfl) (by kernel_rfl) (by kernel_rfl)
theorem OK_wSzDataS_L0 (p0 : (List GData)) (x1 : Int) (x5 : Int) (r : Int) (h : wSzDataS_L0 p0 x1 x5 = some r) : avc Try.prog acwSzDataS_L0 (qwSzDataS_1 r) (stwSzDataS_L0 p0 x1 x5) := (OKs_wSzDataS_L0 p0) x1 x5 r h
theorem OK_wSzDataS (p0 : (List GData)) (p1 : Int) : FOk Try.prog 81 [(.d (.sl 1 (p0.map cGData))), (.d (.i .i64 p1))] (fun y => (.d (.i .i64 y))) (wSzDataS p0 p1) := by
  intro r h
  rw [wSzDataS] at h
  refine acalls_of_fn trwSzDataS (Nat.le_of_ble_eq_true rfl) (by simp) ?_
  show avc Try.prog acwSzDataS (qwSzDataS _) ⟨[(0, (.d (.sl 1 (p0.map cGData)))), (1, (.d (.i .i64 p1)))], []⟩
  delta acwSzDataS
  refine seq_in ?_
  refine ops_in ?_
  refine sts_ok 1 (s' := ⟨[(4, (.d (.i .i64 0))), (0, (.d (.sl 1 (p0.map cGData)))), (1, (.d (.i .i64 p1)))], []⟩) (by kernel_rfl) ?_
  refine nil_in ?_
  refine next_in ?_
  refine seq_in ?_
  refine ops_in ?_
  refine sts_ok 2 (s' := ⟨[(7, (.d (.sl 1 (p0.map cGData)))), (6, (.d (.i .i64 p1))), (4, (.d (.i .i64 0))), (0, (.d (.sl 1 (p0.map cGData)))), (1, (.d (.i .i64 p1)))], []⟩) (by kernel_rfl) ?_
  refine p_step (v' := (.d (.i .i64 (p0.length : Int)))) rfl rfl (vop_len (sz := 1) (l := p0) (f := cGData) (by kernel_rfl) (by kernel_rfl)) ?_
  refine sts_ok 2 (s' := ⟨[(1, (.d (.i .i64 (IntKind.wrap .i64 (p1 - (p0.length : Int)))))), (9, (.d (.i .i64 (IntKind.wrap .i64 (p1 - (p0.length : Int)))))), (8, (.d (.i .i64 (p0.length : Int)))), (7, (.d (.sl 1 (p0.map cGData)))), (6, (.d (.i .i64 p1))), (4, (.d (.i .i64 0))), (0, (.d (.sl 1 (p0.map cGData)))), (1, (.d (.i .i64 p1)))], []⟩) (by kernel_rfl) ?_
  refine nil_in ?_
  refine next_in ?_
  refine seq_in ?_
  refine seq_in ?_
  refine ops_in ?_
  refine sts_ok 2 (s' := ⟨[(11, (.d (.b (decide ((IntKind.wrap .i64 (p1 - (p0.length : Int))) < 0))))), (10, (.d (.i .i64 (IntKind.wrap .i64 (p1 - (p0.length : Int)))))), (1, (.d (.i .i64 (IntKind.wrap .i64 (p1 - (p0.length : Int)))))), (9, (.d (.i .i64 (IntKind.wrap .i64 (p1 - (p0.length : Int)))))), (8, (.d (.i .i64 (p0.length : Int)))), (7, (.d (.sl 1 (p0.map cGData)))), (6, (.d (.i .i64 p1))), (4, (.d (.i .i64 0))), (0, (.d (.sl 1 (p0.map cGData)))), (1, (.d (.i .i64 p1)))], []⟩) (by kernel_rfl) ?_
  refine nil_in ?_
  refine next_in ?_
  refine cond_step h (by kernel_rfl) ?_ ?_
  · clear h; intro h
    refine seq_in ?_
    refine ops_in ?_
    refine sts_ok 1 (s' := ⟨[(4, (.d (.i .i64 (-1)))), (11, (.d (.b (decide ((IntKind.wrap .i64 (p1 - (p0.length : Int))) < 0))))), (10, (.d (.i .i64 (IntKind.wrap .i64 (p1 - (p0.length : Int)))))), (1, (.d (.i .i64 (IntKind.wrap .i64 (p1 - (p0.length : Int)))))), (9, (.d (.i .i64 (IntKind.wrap .i64 (p1 - (p0.length : Int)))))), (8, (.d (.i .i64 (p0.length : Int)))), (7, (.d (.sl 1 (p0.map cGData)))), (6, (.d (.i .i64 p1))), (4, (.d (.i .i64 0))), (0, (.d (.sl 1 (p0.map cGData)))), (1, (.d (.i .i64 p1)))], []⟩) (by kernel_rfl) ?_
    refine nil_in ?_
    refine next_in ?_
    refine ret_in ?_
    refine thenK_ret ?_
    have h := Option.some.inj h; subst h
    exact ret1_step (v := (.d (.i .i64 (-1)))) (by kernel_rfl) (by kernel_rfl) (by kernel_rfl)
  · clear h; intro h
    refine skip_in ?_
    refine next_in ?_
    refine seq_in ?_
    refine seq_in ?_
    refine ops_in ?_
    refine sts_ok 1 (s' := ⟨[(5, (.d (.i .i64 0))), (11, (.d (.b (decide ((IntKind.wrap .i64 (p1 - (p0.length : Int))) < 0))))), (10, (.d (.i .i64 (IntKind.wrap .i64 (p1 - (p0.length : Int)))))), (1, (.d (.i .i64 (IntKind.wrap .i64 (p1 - (p0.length : Int)))))), (9, (.d (.i .i64 (IntKind.wrap .i64 (p1 - (p0.length : Int)))))), (8, (.d (.i .i64 (p0.length : Int)))), (7, (.d (.sl 1 (p0.map cGData)))), (6, (.d (.i .i64 p1))), (4, (.d (.i .i64 0))), (0, (.d (.sl 1 (p0.map cGData)))), (1, (.d (.i .i64 p1)))], []⟩) (by kernel_rfl) ?_
    refine nil_in ?_
    refine next_in ?_
    refine block_in ?_
    exact loop_go (s' := stwSzDataS_L0 p0 (IntKind.wrap .i64 (p1 - (p0.length : Int))) 0) (wk_ren [] (by kernel_rfl) (er_cons (vr_same (by kernel_rfl) (by kernel_rfl)) (er_cons (vr_same (by kernel_rfl) (by kernel_rfl)) (er_cons (vr_same (by kernel_rfl) (by kernel_rfl)) (er_nil)))) (br_nil)) (OK_wSzDataS_L0 p0 (IntKind.wrap .i64 (p1 - (p0.length : Int))) 0 _ h)
theorem OK_wSzDb (p0 : GDb) (p1 : Int) : FOk Try.prog 40 [(vGDb p0), (.d (.i .i64 p1))] (fun y => (.d (.i .i64 y))) (wSzDb p0 p1) := by
  intro r h
  rw [wSzDb] at h
  refine acalls_of_fn trwSzDb (Nat.le_of_ble_eq_true rfl) (by simp) ?_
  show avc Try.prog acwSzDb (qwSzDb _) ⟨[(0, (vGDb p0)), (1, (.d (.i .i64 p1)))], []⟩
  delta acwSzDb
  refine seq_in ?_
  refine ops_in ?_
  refine sts_ok 2 (s' := ⟨[(4, (.d (.i .i64 0))), (2, (.ptr 2 0)), (0, (vGDb p0)), (1, (.d (.i .i64 p1)))], [(2, [(.d (.sl 1 (p0.tables.map cGData)))])]⟩) (by kernel_rfl) ?_
  refine nil_in ?_
  refine next_in ?_
  refine seq_in ?_
  refine ops_in ?_
  refine sts_ok 3 (s' := ⟨[(7, (.d (.i .i64 p1))), (6, (.d (.sl 1 (p0.tables.map cGData)))), (5, (.ptr 2 0)), (4, (.d (.i .i64 0))), (2, (.ptr 2 0)), (0, (vGDb p0)), (1, (.d (.i .i64 p1)))], [(2, [(.d (.sl 1 (p0.tables.map cGData)))])]⟩) (by kernel_rfl) ?_
  refine call_step (m := wSzDataS p0.tables p1) (args := [(.d (.sl 1 (p0.tables.map cGData))), (.d (.i .i64 p1))]) (v' := (fun y => (.d (.i .i64 y)))) h (OK_wSzDataS p0.tables p1) (by kernel_rfl) (by kernel_rfl) (fun _ => rfl) ?_
  clear h; intro y1 h
  refine sts_ok 1 (s' := ⟨[(1, (.d (.i .i64 y1))), (8, (.d (.i .i64 y1))), (7, (.d (.i .i64 p1))), (6, (.d (.sl 1 (p0.tables.map cGData)))), (5, (.ptr 2 0)), (4, (.d (.i .i64 0))), (2, (.ptr 2 0)), (0, (vGDb p0)), (1, (.d (.i .i64 p1)))], [(2, [(.d (.sl 1 (p0.tables.map cGData)))])]⟩) (by kernel_rfl) ?_
  refine nil_in ?_
  refine next_in ?_
  refine seq_in ?_
  refine seq_in ?_
  refine ops_in ?_
  refine sts_ok 2 (s' := ⟨[(10, (.d (.b (decide (y1 < 0))))), (9, (.d (.i .i64 y1))), (1, (.d (.i .i64 y1))), (8, (.d (.i .i64 y1))), (7, (.d (.i .i64 p1))), (6, (.d (.sl 1 (p0.tables.map cGData)))), (5, (.ptr 2 0)), (4, (.d (.i .i64 0))), (2, (.ptr 2 0)), (0, (vGDb p0)), (1, (.d (.i .i64 p1)))], [(2, [(.d (.sl 1 (p0.tables.map cGData)))])]⟩) (by kernel_rfl) ?_
  refine nil_in ?_
  refine next_in ?_
  refine cond_step h (by kernel_rfl) ?_ ?_
  · clear h; intro h
    refine seq_in ?_
    refine ops_in ?_
    refine sts_ok 1 (s' := ⟨[(4, (.d (.i .i64 (-1)))), (10, (.d (.b (decide (y1 < 0))))), (9, (.d (.i .i64 y1))), (1, (.d (.i .i64 y1))), (8, (.d (.i .i64 y1))), (7, (.d (.i .i64 p1))), (6, (.d (.sl 1 (p0.tables.map cGData)))), (5, (.ptr 2 0)), (4, (.d (.i .i64 0))), (2, (.ptr 2 0)), (0, (vGDb p0)), (1, (.d (.i .i64 p1)))], [(2, [(.d (.sl 1 (p0.tables.map cGData)))])]⟩) (by kernel_rfl) ?_
    refine nil_in ?_
    refine next_in ?_
    refine ret_in ?_
    refine thenK_ret ?_
    have h := Option.some.inj h; subst h
    exact ret1_step (v := (.d (.i .i64 (-1)))) (by kernel_rfl) (by kernel_rfl) (by kernel_rfl)
  · clear h; intro h
    refine skip_in ?_
    refine next_in ?_
    refine seq_in ?_
    refine ops_in ?_
    refine sts_ok 2 (s' := ⟨[(4, (.d (.i .i64 y1))), (11, (.d (.i .i64 y1))), (10, (.d (.b (decide (y1 < 0))))), (9, (.d (.i .i64 y1))), (1, (.d (.i .i64 y1))), (8, (.d (.i .i64 y1))), (7, (.d (.i .i64 p1))), (6, (.d (.sl 1 (p0.tables.map cGData)))), (5, (.ptr 2 0)), (4, (.d (.i .i64 0))), (2, (.ptr 2 0)), (0, (vGDb p0)), (1, (.d (.i .i64 p1)))], [(2, [(.d (.sl 1 (p0.tables.map cGData)))])]⟩) (by kernel_rfl) ?_
    refine nil_in ?_
    refine next_in ?_
    refine ret_in ?_
    have h := Option.some.inj h; subst h
    exact ret1_step (v := (.d (.i .i64 y1))) (by kernel_rfl) (by kernel_rfl) (by kernel_rfl)
theorem OK_wToCol (p0 : GCol) : FOk Try.prog 216 [(vGCol p0)] (fun y => (vGCol y)) (wToCol p0) := by
  intro r h
  rw [wToCol] at h
  refine acalls_of_fn trwToCol (Nat.le_of_ble_eq_true rfl) (by simp) ?_
  show avc Try.prog acwToCol (qwToCol _) ⟨[(0, (vGCol p0))], []⟩
  delta acwToCol
  refine seq_in ?_
  refine ops_in ?_
  refine sts_ok 2 (s' := ⟨[(2, (.ptr 2 0)), (1, (.ptr 1 0)), (0, (vGCol p0))], [(2, [(.d (.s (bs []))), (.d (.i .i64 0))]), (1, [(.d (.s (bs p0.name))), (.d (.i .i64 p0.type))])]⟩) (by kernel_rfl) ?_
  refine nil_in ?_
  refine next_in ?_
  refine seq_in ?_
  refine ops_in ?_
  refine sts_ok 1 (s' := ⟨[(3, (.ptr 3 0)), (2, (.ptr 2 0)), (1, (.ptr 1 0)), (0, (vGCol p0))], [(3, [(.d (.s (bs []))), (.d (.i .i64 0))]), (2, [(.d (.s (bs []))), (.d (.i .i64 0))]), (1, [(.d (.s (bs p0.name))), (.d (.i .i64 p0.type))])]⟩) (by kernel_rfl) ?_
  refine nil_in ?_
  refine next_in ?_
  refine seq_in ?_
  refine ops_in ?_
  refine sts_ok 4 (s' := ⟨[(6, (.ptr 3 0)), (5, (.d (.s (bs p0.name)))), (4, (.ptr 1 0)), (3, (.ptr 3 0)), (2, (.ptr 2 0)), (1, (.ptr 1 0)), (0, (vGCol p0))], [(3, [(.d (.s (bs p0.name))), (.d (.i .i64 0))]), (2, [(.d (.s (bs []))), (.d (.i .i64 0))]), (1, [(.d (.s (bs p0.name))), (.d (.i .i64 p0.type))])]⟩) (by kernel_rfl) ?_
  refine nil_in ?_
  refine next_in ?_
  refine seq_in ?_
  refine ops_in ?_
  refine sts_ok 4 (s' := ⟨[(9, (.ptr 3 1)), (8, (.d (.i .i64 p0.type))), (7, (.ptr 1 1)), (6, (.ptr 3 0)), (5, (.d (.s (bs p0.name)))), (4, (.ptr 1 0)), (3, (.ptr 3 0)), (2, (.ptr 2 0)), (1, (.ptr 1 0)), (0, (vGCol p0))], [(3, [(.d (.s (bs p0.name))), (.d (.i .i64 p0.type))]), (2, [(.d (.s (bs []))), (.d (.i .i64 0))]), (1, [(.d (.s (bs p0.name))), (.d (.i .i64 p0.type))])]⟩) (by kernel_rfl) ?_
  refine nil_in ?_
  refine next_in ?_
  refine seq_in ?_
  refine ops_in ?_
  refine sts_ok 2 (s' := ⟨[(10, (vGCol p0)), (9, (.ptr 3 1)), (8, (.d (.i .i64 p0.type))), (7, (.ptr 1 1)), (6, (.ptr 3 0)), (5, (.d (.s (bs p0.name)))), (4, (.ptr 1 0)), (3, (.ptr 3 0)), (2, (.ptr 2 0)), (1, (.ptr 1 0)), (0, (vGCol p0))], [(3, [(.d (.s (bs p0.name))), (.d (.i .i64 p0.type))]), (2, [(.d (.s (bs p0.name))), (.d (.i .i64 p0.type))]), (1, [(.d (.s (bs p0.name))), (.d (.i .i64 p0.type))])]⟩) (by kernel_rfl) ?_
  refine nil_in ?_
  refine next_in ?_
  refine ret_in ?_
  have h := Option.some.inj h; subst h
  exact ret1_step (v := (vGCol p0)) (by kernel_rfl) (by kernel_rfl) (by kernel_rfl)
theorem OKs_wToColS_L0 (p0 : (List GCol)) : (∀ (x4 : Int) (b7_0 : (List GCol)) (r : (List GCol)), wToColS_L0 p0 x4 b7_0 = some r → avc Try.prog acwToColS_L0 (qwToColS_1 r) (stwToColS_L0 p0 x4 b7_0)) := by
  refine wToColS_L0.partial_correctness p0 (fun x4 b7_0 r => avc Try.prog acwToColS_L0 (qwToColS_1 r) (stwToColS_L0 p0 x4 b7_0)) ?_
  · intro F_wToColS_L0 OK_wToColS_L0 x4 b7_0 r h
    delta acwToColS_L0
    refine loop_unroll ?_
    refine seq_in ?_
    refine seq_in ?_
    refine ops_in ?_
    refine sts_ok 2 (s' := ⟨(9, (.d (.sl 2 (p0.map cGCol)))) :: (8, (.d (.i .i64 x4))) :: (stwToColS_L0 p0 x4 b7_0).env, (stwToColS_L0 p0 x4 b7_0).bx⟩) (by kernel_rfl) ?_
    refine p_step (v' := (.d (.i .i64 (p0.length : Int)))) rfl rfl (vop_len (sz := 2) (l := p0) (f := cGCol) (by kernel_rfl) (by kernel_rfl)) ?_
    refine sts_ok 1 (s' := ⟨(11, (.d (.b (decide (x4 < (p0.length : Int)))))) :: (10, (.d (.i .i64 (p0.length : Int)))) :: (9, (.d (.sl 2 (p0.map cGCol)))) :: (8, (.d (.i .i64 x4))) :: (stwToColS_L0 p0 x4 b7_0).env, (stwToColS_L0 p0 x4 b7_0).bx⟩) (by kernel_rfl) ?_
    refine nil_in ?_
    refine next_in ?_
    refine cond_step h (by kernel_rfl) ?_ ?_
    · clear h; intro h
      refine skip_in ?_
      refine next_in ?_
      refine seq_in ?_
      refine block_in ?_
      refine ops_in ?_
      refine sts_ok 4 (s' := ⟨(17, (.d (.i .i64 x4))) :: (16, (.d (.sl 2 (p0.map cGCol)))) :: (15, (.d (.i .i64 x4))) :: (14, (.msl 7 2 0 b7_0.length b7_0.length)) :: (11, (.d (.b (decide (x4 < (p0.length : Int)))))) :: (10, (.d (.i .i64 (p0.length : Int)))) :: (9, (.d (.sl 2 (p0.map cGCol)))) :: (8, (.d (.i .i64 x4))) :: (stwToColS_L0 p0 x4 b7_0).env, (stwToColS_L0 p0 x4 b7_0).bx⟩) (by kernel_rfl) ?_
      refine v_step (m := idx p0 x4) (v' := fun y => (.rp [(.s (bs y.name)), (.i .i64 y.type)])) h rfl rfl (fun y hy => vop_ia (l := p0) (f := cGCol) (g := cGCol) (k := .i64) hy (fun _ => rfl) (by kernel_rfl) (by kernel_rfl) (by kernel_rfl)) ?_
      clear h; intro y2 h
      refine sts_ok 1 (s' := ⟨(19, (vGCol y2)) :: (18, (.rp [(.s (bs y2.name)), (.i .i64 y2.type)])) :: (17, (.d (.i .i64 x4))) :: (16, (.d (.sl 2 (p0.map cGCol)))) :: (15, (.d (.i .i64 x4))) :: (14, (.msl 7 2 0 b7_0.length b7_0.length)) :: (11, (.d (.b (decide (x4 < (p0.length : Int)))))) :: (10, (.d (.i .i64 (p0.length : Int)))) :: (9, (.d (.sl 2 (p0.map cGCol)))) :: (8, (.d (.i .i64 x4))) :: (stwToColS_L0 p0 x4 b7_0).env, (stwToColS_L0 p0 x4 b7_0).bx⟩) (by kernel_rfl) ?_
      refine call_step (m := wToCol y2) (args := [(vGCol y2)]) (v' := (fun y => (vGCol y))) h (OK_wToCol y2) (by kernel_rfl) (by kernel_rfl) (fun _ => rfl) ?_
      clear h; intro y3 h
      refine v_step (m := idx b7_0 x4) (v' := fun y => (.ptr 7 ((0 + (x4).toNat) * 2))) h rfl rfl (fun y hy => vop_iaE (l := b7_0) (k := .i64) hy (by kernel_rfl) (by kernel_rfl) (by kernel_rfl)) ?_
      clear h; intro y4 h
      refine sti_step (b := 7) (i := x4) (l := b7_0) (v := y3) (f := cGCol) (u := (vGCol y3)) (T := fun y m => ⟨[(21, (.ptr 7 ((0 + (x4).toNat) * 2))), (20, (vGCol y3)), (19, (vGCol y2)), (18, (.rp [(.s (bs y2.name)), (.i .i64 y2.type)])), (17, (.d (.i .i64 x4))), (16, (.d (.sl 2 (p0.map cGCol)))), (15, (.d (.i .i64 x4))), (14, (.msl 7 2 0 m m)), (11, (.d (.b (decide (x4 < (p0.length : Int)))))), (10, (.d (.i .i64 (p0.length : Int)))), (9, (.d (.sl 2 (p0.map cGCol)))), (8, (.d (.i .i64 x4))), (0, (.d (.sl 2 (p0.map cGCol)))), (3, (.msl 7 2 0 m m)), (4, (.d (.i .i64 x4)))], [(7, rowsV (y.map cGCol))]⟩) h (by kernel_rfl) (by kernel_rfl) (by kernel_rfl) (by kernel_rfl) (fun y => (congrArg List.length ((fun _ => rfl) y)).trans rfl) (by kernel_rfl) (fun y => by kernel_rfl) ?_
      clear h; intro y5 h
      refine nil_in ?_
      refine blockK_norm ?_
      refine next_in ?_
      refine ops_in ?_
      refine sts_ok 3 (s' := ⟨[(4, (.d (.i .i64 (IntKind.wrap .i64 (x4 + 1))))), (13, (.d (.i .i64 (IntKind.wrap .i64 (x4 + 1))))), (12, (.d (.i .i64 x4))), (21, (.ptr 7 ((0 + (x4).toNat) * 2))), (20, (vGCol y3)), (19, (vGCol y2)), (18, (.rp [(.s (bs y2.name)), (.i .i64 y2.type)])), (17, (.d (.i .i64 x4))), (16, (.d (.sl 2 (p0.map cGCol)))), (15, (.d (.i .i64 x4))), (14, (.msl 7 2 0 y5.length y5.length)), (11, (.d (.b (decide (x4 < (p0.length : Int)))))), (10, (.d (.i .i64 (p0.length : Int)))), (9, (.d (.sl 2 (p0.map cGCol)))), (8, (.d (.i .i64 x4))), (0, (.d (.sl 2 (p0.map cGCol)))), (3, (.msl 7 2 0 y5.length y5.length)), (4, (.d (.i .i64 x4)))], [(7, rowsV (y5.map cGCol))]⟩) (by kernel_rfl) ?_
      refine nil_in ?_
      exact loop_back (s' := stwToColS_L0 p0 (IntKind.wrap .i64 (x4 + 1)) y5) (wk_ren [] (by kernel_rfl) (er_cons (vr_same (by kernel_rfl) (by kernel_rfl)) (er_cons (vr_same (by kernel_rfl) (by kernel_rfl)) (er_cons (vr_same (by kernel_rfl) (by kernel_rfl)) (er_nil)))) (br_rows (by kernel_rfl) (br_nil))) (OK_wToColS_L0 (IntKind.wrap .i64 (x4 + 1)) y5 _ h)
    · clear h; intro h
      refine exit_in ?_
      refine thenK_exit ?_
      refine thenK_exit ?_
      refine blockK_here ?_
      refine next_in ?_
      refine seq_in ?_
      refine ops_in ?_
      refine sts_ok 2 (s' := ⟨(2, (.msl 7 2 0 b7_0.length b7_0.length)) :: (22, (.msl 7 2 0 b7_0.length b7_0.length)) :: (11, (.d (.b (decide (x4 < (p0.length : Int)))))) :: (10, (.d (.i .i64 (p0.length : Int)))) :: (9, (.d (.sl 2 (p0.map cGCol)))) :: (8, (.d (.i .i64 x4))) :: (stwToColS_L0 p0 x4 b7_0).env, (stwToColS_L0 p0 x4 b7_0).bx⟩) (by kernel_rfl) ?_
      refine nil_in ?_
      refine next_in ?_
      refine ret_frz (n := 7) (sz := 2) (l := b7_0) (f := cGCol) (s' := ⟨[(2, (.d (.sl 2 (b7_0.map cGCol))))], []⟩) (by decide) (fun y => (congrArg List.length ((fun _ => rfl) y)).trans rfl) (by kernel_rfl) (⟨.inr ⟨b7_0.length, b7_0.length, by kernel_rfl, lms b7_0 _, by kernel_rfl⟩, trivial⟩) (trivial) ?_
      refine ret_in ?_
      have h := Option.some.inj h; subst h
      exact ret1_step (v := (.d (.sl 2 (b7_0.map cGCol)))) (by kernel_rfl) (by kernel_rfl) (by kernel_rfl)
theorem OK_wToColS_L0 (p0 : (List GCol)) (x4 : Int) (b7_0 : (List GCol)) (r : (List GCol)) (h : wToColS_L0 p0 x4 b7_0 = some r) : avc Try.prog acwToColS_L0 (qwToColS_1 r) (stwToColS_L0 p0 x4 b7_0) := (OKs_wToColS_L0 p0) x4 b7_0 r h
end Go.Proofs.Ytlohdmekmmjjlaa
