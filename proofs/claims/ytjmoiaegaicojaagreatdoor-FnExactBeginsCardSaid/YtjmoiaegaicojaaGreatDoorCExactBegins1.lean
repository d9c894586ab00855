/- That the code computes these functions (printed by a program). -/
import Derived.Test.YtjmoiaegaicojaaGreatDoorCExactBegins0
namespace Go.Proofs.YtjmoiaegaicojaaGreatDoor
open Go Go.RowKit Go.Ab
attribute [local irreducible] avc aops aop dgo retQ thenK blockK wkK drawK stz dstz ACalls eff CallN.st
theorem OK_sL1In (p0 : Int) (p1 : Int) (p2 : Int) : FOk Tryz.prog 47 [(vI p0), (vI p1), (vI p2)] (fun y => (vB y)) (sL1In p0 p1 p2) := by
 intro r h
 rw [sL1In] at h
 refine ao trsL1In (si (oi (sx 1 (ni (xi (si (oi (sx 4 (gq 0 (gq 0 (gq 2 (pkA h fun y1 h => (sx 1 (ni (xi (ri ?_))))))))))))))))
 injection h with h; subst h
 exact rp
theorem OK_sL2Words : FOkB Tryz.prog 54 [] [] (fun (y : (List (List UInt8))) => (.osl 2000000 9 1 (y.map cStr))) (fun (y : (List (List UInt8))) => []) (sL2Words) := by
 intro r h
 rw [sL2Words] at h
 refine ao trsL2Words (si (oi (sx 1 (ni (xi (si (oi ?_)))))))
 refine bsl_step (l := ([[], [83, 69, 76, 69, 67, 84], [68, 73, 83, 84, 73, 78, 67, 84], [70, 82, 79, 77], [74, 79, 73, 78], [79, 78], [87, 72, 69, 82, 69], [79, 82, 68, 69, 82], [66, 89], [65, 83, 67], [68, 69, 83, 67], [76, 73, 77, 73, 84], [65, 83], [65, 78, 68], [79, 82], [78, 79, 84], [73, 83], [73, 78], [66, 69, 84, 87, 69, 69, 78], [69, 88, 73, 83, 84, 83], [78, 85, 76, 76], [84, 82, 85, 69], [70, 65, 76, 83, 69], [73, 78, 83, 69, 82, 84], [73, 78, 84, 79], [86, 65, 76, 85, 69, 83], [85, 80, 68, 65, 84, 69], [83, 69, 84], [68, 69, 76, 69, 84, 69]] : List (List UInt8))) (f := cStr) (g := cStr) (by kernel_rfl) (fun _ => rfl) (by kernel_rfl) ?_
 refine sx 1 (ni (xi ?_))
 refine ret_wk (s' := ⟨[(0, (.osl 2000000 9 1 (([[], [83, 69, 76, 69, 67, 84], [68, 73, 83, 84, 73, 78, 67, 84], [70, 82, 79, 77], [74, 79, 73, 78], [79, 78], [87, 72, 69, 82, 69], [79, 82, 68, 69, 82], [66, 89], [65, 83, 67], [68, 69, 83, 67], [76, 73, 77, 73, 84], [65, 83], [65, 78, 68], [79, 82], [78, 79, 84], [73, 83], [73, 78], [66, 69, 84, 87, 69, 69, 78], [69, 88, 73, 83, 84, 83], [78, 85, 76, 76], [84, 82, 85, 69], [70, 65, 76, 83, 69], [73, 78, 83, 69, 82, 84], [73, 78, 84, 79], [86, 65, 76, 85, 69, 83], [85, 80, 68, 65, 84, 69], [83, 69, 84], [68, 69, 76, 69, 84, 69]] : List (List UInt8)).map cStr)))], []⟩) (wr [(2000000, .old 0)] (eo 0 er_nil) br_nil) ?_
 injection h with h; subst h
 exact rb
theorem OK_sKeyText (p0 : Int) : FOk Tryz.prog 40 [(vI p0)] (fun y => (vS y)) (sKeyText p0) := by
 intro r h
 rw [sKeyText] at h
 refine ao trsKeyText (si (oi (sx 1 (ni (xi (si (si (oi (sx 1 (cs h (OK_sL1In _ _ _) fun y1 h => (sx 1 (ni (xi ?_)))))))))))))
 refine cd h (fun h => ?_) fun h => ?_
 refine si (oi (sx 1 (ni (xi (ri (tr ?_))))))
 injection h with h; subst h
 exact rp
 refine ki (xi (si (oi (cg ⟨[], [], [], [], [], [(2000000, 6)], [], [6], []⟩ h (OK_sL2Words) fun y2 h => (sx 1 (iq h fun y3 h => (sx 2 (ni (xi (ri ?_))))))))))
 injection h with h; subst h
 exact rp
theorem OK_sL12Next (p0 : GL12In) (p1 : Int) : FOkB Tryz.prog 28 [(.ptr 1000000 0), (vI p1)] [(1000000, bGL12In p0)] (fun (y : GToken) => (vGToken y)) (fun (y : GToken) => [(1000000, bGL12In p0)]) (sL12Next p0 p1) := by
 intro r h
 rw [sL12Next] at h
 refine ao trsL12Next (si (oi (sx 1 (ni (xi (si (si (dops_in (dsx 5 (dgq 0 (dgq 1 (dgq 1 (dgq 1 (dgq 0 (dgq 2 (dgq 0 (dgq 1 (dgq 1 (dgq 1 (dgp_step (p := true) (b := p0.bad) (v' := (vI (ln p0.t))) (by kernel_rfl) rfl rfl (fun hc => vop_len (sz := 3) (l := p0.t) (f := cGToken) (Eq.trans (b := ([(true && (p0.bad == false))] : List Bool).all id) (by kernel_rfl) (all_c hc rfl)) (by kernel_rfl)) (dgq 2 ?_)))))))))))))))))))))
 refine dpkO h fun y1 h => (dnil_in (by kernel_rfl) (by kernel_rfl) (xi ?_))
 refine cd h (fun h => ?_) fun h => ?_
 refine si (oi (sx 2 (ni (xi (ri (tr ?_))))))
 injection h with h; subst h
 exact rb
 refine ki (xi (si (dops_in (dsx 10 (diq h fun y2 h => (dsx 2 (dnil_in (by kernel_rfl) (by kernel_rfl) (xi (ri ?_)))))))))
 injection h with h; subst h
 exact rb
theorem OK_sL12Key (p0 : GL12In) (p1 : Int) : FOkB Tryz.prog 26 [(.ptr 1000000 0), (vI p1)] [(1000000, bGL12In p0)] (fun (y : Bool) => (vB y)) (fun (y : Bool) => [(1000000, bGL12In p0)]) (sL12Key p0 p1) := by
 intro r h
 rw [sL12Key] at h
 refine ao trsL12Key (si (oi (sx 1 (ni (xi (si (oi (sx 1 (cg ⟨[(1000000, 1000000)], [], [], [], [], [], [], [], []⟩ h (OK_sL12Next _ _) fun y1 h => (sx 2 (ni (xi (si (dops_in (dsx 4 (dgq 0 (dgq 1 (dgq 0 (dgc 1 h (OK_sKeyText _) fun y2 h => (dgq 2 (dpkA h fun y3 h => (dsx 1 (dnil_in (by kernel_rfl) (by kernel_rfl) (xi (ri ?_)))))))))))))))))))))))))
 injection h with h; subst h
 exact rb
theorem OK_sL12Maybe_J0 (y1 : Bool) (b1000000_0 : (List GToken)) (b1000000_1 : Int) (b1000000_2 : Bool) (r : Bool × GL12In) (h : sL12Maybe_J0 y1 b1000000_0 b1000000_1 b1000000_2 = some r) : mosL12Maybe_J0 y1 b1000000_0 b1000000_1 b1000000_2 r := by
 rw [sL12Maybe_J0] at h
 delta mosL12Maybe_J0 acsL12Maybe_J0
 refine si (oi (sx 2 (ni (xi (ri ?_)))))
 injection h with h; subst h
 exact rb
theorem OK_sL12Step (p0 : GL12In) (p1 : Bool) : FOkB Tryz.prog 21 [(.ptr 1000000 0), (vB p1)] [(1000000, bGL12In p0)] (fun (y : GL12In) => (.tup [])) (fun (y : GL12In) => [(1000000, bGL12In y)]) (sL12Step p0 p1) := by
 intro r h
 rw [sL12Step] at h
 refine ao trsL12Step (si (si (oi (sx 3 (gq 0 (gq 1 (gq 1 (gq 1 (pkO h fun y1 h => (ni (xi ?_)))))))))))
 refine cd h (fun h => ?_) fun h => ?_
 refine si (oi (sx 4 (ni (xi (ri (tr ?_))))))
 injection h with h; subst h
 exact r0b
 refine ki (xi (oi (sx 9 (ni (retn_in ?_)))))
 injection h with h; subst h
 exact r0b
theorem OK_sL12Maybe (p0 : GL12In) (p1 : Int) : FOkB Tryz.prog 18 [(.ptr 1000000 0), (vI p1)] [(1000000, bGL12In p0)] (fun (y : Bool × GL12In) => (vB y.1)) (fun (y : Bool × GL12In) => [(1000000, bGL12In y.2)]) (sL12Maybe p0 p1) := by
 intro r h
 rw [sL12Maybe] at h
 refine ao trsL12Maybe (si (oi (sx 1 (ni (xi (si (oi (sx 2 (cg ⟨[(1000000, 1000000)], [], [], [], [], [], [], [], []⟩ h (OK_sL12Key _ _) fun y1 h => (sx 1 (ni (xi (si (si (oi (sx 1 (ni (xi ?_))))))))))))))))))
 refine cd h (fun h => ?_) fun h => ?_
 exact oi (sx 1 (cg ⟨[(1000000, 1000000)], [], [], [], [], [], [], [], []⟩ h (OK_sL12Step _ _) fun y2 h => (ni (nxs (OK_sL12Maybe_J0 _ _ _ _ _ h) (wr [] (es er_nil) (bs_ br_nil))))))
 exact ki (nxs (OK_sL12Maybe_J0 _ _ _ _ _ h) (wr [] (es er_nil) (bs_ br_nil)))
theorem OK_sL10Sign (p0 : (List UInt8)) : FOk Tryz.prog 49 [(vS p0)] (fun y => (vGToken y)) (sL10Sign p0) := by
 intro r h
 rw [sL10Sign] at h
 refine ao trsL10Sign (si (oi (sx 1 (ni (xi (si (oi (sx 3 (ni (xi (ri ?_)))))))))))
 injection h with h; subst h
 exact rp
theorem OK_sOpText (p0 : Int) : FOk Tryz.prog 48 [(vI p0)] (fun y => (vS y)) (sOpText p0) := by
 intro r h
 rw [sOpText] at h
 refine ao trsOpText (si (oi (sx 1 (ni (xi (si (si (oi (sx 1 (cs h (OK_sL1In _ _ _) fun y1 h => (sx 1 (ni (xi ?_)))))))))))))
 refine cd h (fun h => ?_) fun h => ?_
 refine si (oi (sx 1 (ni (xi (ri (tr ?_))))))
 injection h with h; subst h
 exact rp
 refine ki (xi (si (oi (bsl_step (l := ([[], [79, 82], [65, 78, 68], [61], [60, 62], [60], [60, 61], [62], [62, 61], [124, 124], [43], [45], [42], [47], [37], [78, 79, 84], [45]] : List (List UInt8))) (f := cStr) (g := cStr) (by kernel_rfl) (fun _ => rfl) (by kernel_rfl) (sx 1 (iq h fun y2 h => (sx 2 (ni (xi (ri ?_))))))))))
 injection h with h; subst h
 exact rp
theorem OK_sL10Op (p0 : Int) : FOk Tryz.prog 36 [(vI p0)] (fun y => (vGToken y)) (sL10Op p0) := by
 intro r h
 rw [sL10Op] at h
 refine ao trsL10Op (si (oi (sx 1 (ni (xi (si (si (oi (sx 3 (gq 0 (gq 1 (pkO h fun y1 h => (sx 1 (gq 0 (gq 1 (pkO h fun y2 h => (ni (xi ?_))))))))))))))))))
 refine cd h (fun h => ?_) fun h => ?_
 refine si (oi (sx 1 (cs h (OK_sOpText _) fun y3 h => (sx 2 (ni (xi (ri (tr ?_))))))))
 injection h with h; subst h
 exact rp
 refine ki (xi (si (oi (sx 1 (cs h (OK_sOpText _) fun y4 h => (cs h (OK_sL10Sign _) fun y5 h => (sx 1 (ni (xi (ri ?_))))))))))
 injection h with h; subst h
 exact rp
theorem OK_sLevelOf_J2 (r : Int) (h : sLevelOf_J2 = some r) : mosLevelOf_J2 r := by
 rw [sLevelOf_J2] at h
 delta mosLevelOf_J2 acsLevelOf_J2
 refine si (oi (sx 1 (ni (xi (ri ?_)))))
 injection h with h; subst h
 exact rp
theorem OK_sLevelOf_J1 (p0 : GExpr) (x9 : Bool) (r : Int) (h : sLevelOf_J1 p0 x9 = some r) : mosLevelOf_J1 p0 x9 r := by
 rw [sLevelOf_J1] at h
 delta mosLevelOf_J1 acsLevelOf_J1
 refine cd h (fun h => ?_) fun h => ?_
 refine si (oi (sx 1 (ni (xi (ri (br (tr ?_)))))))
 injection h with h; subst h
 exact rp
 refine si (oi (sx 2 (ni (xi ?_))))
 refine cd h (fun h => ?_) fun h => ?_
 refine si (si (oi (sx 3 (ni (xi ?_)))))
 refine cd h (fun h => ?_) fun h => ?_
 refine si (oi (sx 1 (ni (xi (ri (tr (br (tr ?_))))))))
 injection h with h; subst h
 exact rp
 refine ki (xi (si (oi (sx 3 (ni (xi ?_))))))
 refine cd h (fun h => ?_) fun h => ?_
 refine si (oi (sx 1 (ni (xi (ri (br (tr ?_)))))))
 injection h with h; subst h
 exact rp
 exact ki (bn (nxs (OK_sLevelOf_J2 _ h) (wr [] er_nil br_nil)))
 refine si (oi (sx 2 (ni (xi ?_))))
 refine cd h (fun h => ?_) fun h => ?_
 refine si (oi (sx 2 (cs h (OK_sL1In _ _ _) fun y1 h => (ni (xi ?_)))))
 refine cd h (fun h => ?_) fun h => ?_
 refine si (oi (bsl_step (l := ([0, 1, 2, 4, 4, 4, 4, 4, 4, 5, 6, 6, 7, 7, 7] : List Int)) (f := cI) (g := cI) (by kernel_rfl) (fun _ => rfl) (by kernel_rfl) (sx 2 (iqf cI h fun y2 h => (sx 2 (ni (xi (ri (br (tr ?_))))))))))
 injection h with h; subst h
 exact rp
 exact ki (bn (nxs (OK_sLevelOf_J2 _ h) (wr [] er_nil br_nil)))
 exact ki (bn (nxs (OK_sLevelOf_J2 _ h) (wr [] er_nil br_nil)))
theorem OK_sLevelOf_J0 (p0 : GExpr) (x5 : Bool) (r : Int) (h : sLevelOf_J0 p0 x5 = some r) : mosLevelOf_J0 p0 x5 r := by
 rw [sLevelOf_J0] at h
 delta mosLevelOf_J0 acsLevelOf_J0
 refine cd h (fun h => ?_) fun h => ?_
 refine si (oi (sx 1 (ni (xi (ri (br (tr ?_)))))))
 injection h with h; subst h
 exact rp
 refine si (si (oi (sx 2 (ni (xi ?_)))))
 refine cd h (fun h => ?_) fun h => ?_
 exact ki (nxs (OK_sLevelOf_J1 _ _ _ h) (wr [] (es (es (es er_nil))) (bs_ br_nil)))
 refine si (oi (sx 2 (ni (xi ?_))))
 refine cd h (fun h => ?_) fun h => ?_
 exact ki (nxs (OK_sLevelOf_J1 _ _ _ h) (wr [] (es (es (es er_nil))) (bs_ br_nil)))
 refine si (oi (sx 2 (ni (xi ?_))))
 refine cd h (fun h => ?_) fun h => ?_
 exact ki (nxs (OK_sLevelOf_J1 _ _ _ h) (wr [] (es (es (es er_nil))) (bs_ br_nil)))
 exact oi (sx 2 (ni (nxs (OK_sLevelOf_J1 _ _ _ h) (wr [] (es (es (es er_nil))) (bs_ br_nil)))))
theorem OK_sLevelOf (p0 : GExpr) : FOk Tryz.prog 35 [(vGExpr p0)] (fun y => (vI y)) (sLevelOf p0) := by
 intro r h
 rw [sLevelOf] at h
 refine ao trsLevelOf (si (oi (sx 2 (ni (xi (si (si (oi (sx 2 (ni (xi (bi (si (si (oi (sx 2 (ni (xi ?_))))))))))))))))))
 refine cd h (fun h => ?_) fun h => ?_
 exact ki (nxs (OK_sLevelOf_J0 _ _ _ h) (wr [] (es (es (es er_nil))) (bs_ br_nil)))
 refine si (oi (sx 2 (ni (xi ?_))))
 refine cd h (fun h => ?_) fun h => ?_
 exact ki (nxs (OK_sLevelOf_J0 _ _ _ h) (wr [] (es (es (es er_nil))) (bs_ br_nil)))
 exact oi (sx 2 (ni (nxs (OK_sLevelOf_J0 _ _ _ h) (wr [] (es (es (es er_nil))) (bs_ br_nil)))))
theorem OKs_sL12Op_J1 (p1 : Int) (p0 : GL12In) : (∀ (x5 : Int) (r : Int), sL12Op_J1 p1 x5 p0 = some r → mosL12Op_J1 p1 x5 p0 r) ∧ (∀ (x5 : Int) (r : Int), sL12Op_L0 p1 p0 x5 = some r → mosL12Op_L0 p1 p0 x5 r) := by
 refine sL12Op_J1.mutual_partial_correctness p1 p0 (fun x5 r => mosL12Op_J1 p1 x5 p0 r) (fun x5 r => mosL12Op_L0 p1 p0 x5 r) ?_ ?_
 · intro F_sL12Op_L0 OK_sL12Op_L0 x5 r h
   delta mosL12Op_J1 acsL12Op_J1
   exact oi (sx 3 (ni (lbs (OK_sL12Op_L0 _ _ h) (wr [] (es (es (es er_nil))) (bs_ br_nil)))))
 · intro F_sL12Op_J1 OK_sL12Op_J1 x5 r h
   delta mosL12Op_L0 acsL12Op_L0
   refine loop_unroll (si (si (oi (sx 2 (ni (xi ?_))))))
   refine cd h (fun h => ?_) fun h => ?_
   refine ki (xi (si (bi (si (si (oi (sx 2 (cs h (OK_sLevelOf _) fun y1 h => (sx 2 (ni (xi ?_)))))))))))
   refine cd h (fun h => ?_) fun h => ?_
   exact ei (te (bh (nxs (OK_sL12Op_J1 _ _ h) (wr [] (es (es (es er_nil))) (bs_ br_nil)))))
   refine ki (xi (si (oi (sx 1 (cs h (OK_sL10Op _) fun y2 h => (sx 2 (ni (xi (si (oi (sx 1 (cg ⟨[(1000000, 1000000)], [], [], [], [], [], [], [], []⟩ h (OK_sL12Next _ _) fun y3 h => (sx 2 (ni (xi (si (oi (sx 6 (gq 0 (gq 1 (gq 0 (gq 1 (gq 2 (pkA h fun y4 h => (ni (xi ?_))))))))))))))))))))))))))
   refine cd h (fun h => ?_) fun h => ?_
   refine si (oi (sx 2 (ni (xi (ri (br (tr (tr (br (tr ?_))))))))))
   injection h with h; subst h
   exact rb
   exact ki (bn (nxs (OK_sL12Op_J1 _ _ h) (wr [] (es (es (es er_nil))) (bs_ br_nil))))
   refine ei (te (te (bh (xi (si (oi (sx 1 (ni (xi (ri ?_))))))))))
   injection h with h; subst h
   exact rb
theorem OK_sL12Op_J1 (p1 : Int) (x5 : Int) (p0 : GL12In) (r : Int) (h : sL12Op_J1 p1 x5 p0 = some r) : mosL12Op_J1 p1 x5 p0 r := (OKs_sL12Op_J1 p1 p0).1 x5 r h
theorem OK_sL12Op_L0 (p1 : Int) (p0 : GL12In) (x5 : Int) (r : Int) (h : sL12Op_L0 p1 p0 x5 = some r) : mosL12Op_L0 p1 p0 x5 r := (OKs_sL12Op_J1 p1 p0).2 x5 r h
theorem OK_sL12Op (p0 : GL12In) (p1 : Int) : FOkB Tryz.prog 23 [(.ptr 1000000 0), (vI p1)] [(1000000, bGL12In p0)] (fun (y : Int) => (vI y)) (fun (y : Int) => [(1000000, bGL12In p0)]) (sL12Op p0 p1) := by
 intro r h
 rw [sL12Op] at h
 exact ao trsL12Op (si (oi (sx 1 (ni (xi (si (si (oi (sx 1 (ni (xi (bi (lgs (OK_sL12Op_L0 _ _ _ _ h) (wr [] (es (es (es er_nil))) (bs_ br_nil)))))))))))))))
theorem OK_sFold_J2 (x3 : (List Int)) (r : (List UInt8)) (h : sFold_J2 x3 = some r) : mosFold_J2 x3 r := by
 rw [sFold_J2] at h
 delta mosFold_J2 acsFold_J2
 refine si (oi (sx 1 (vs (fun (y : (List UInt8)) => (vS y)) h (fun y hy => vop_cbs (l := x3) hy (by kernel_rfl) (by kernel_rfl)) fun y3 h => (sx 1 (ni (xi (ri ?_)))))))
 injection h with h; subst h
 exact rp
theorem OKs_sFold_J1 : (∀ (x4 : Int) (b60052000_0 : (List Int)) (r : (List UInt8)), sFold_J1 x4 b60052000_0 = some r → mosFold_J1 x4 b60052000_0 r) ∧ (∀ (x4 : Int) (b60013000_0 : (List Int)) (r : (List UInt8)), sFold_L0 x4 b60013000_0 = some r → mosFold_L0 x4 b60013000_0 r) := by
 refine sFold_J1.mutual_partial_correctness (fun x4 b60052000_0 r => mosFold_J1 x4 b60052000_0 r) (fun x4 b60013000_0 r => mosFold_L0 x4 b60013000_0 r) ?_ ?_
 · intro F_sFold_L0 OK_sFold_L0 x4 b60052000_0 r h
   delta mosFold_J1 acsFold_J1
   exact oi (sx 3 (ni (lbs (OK_sFold_L0 _ _ _ h) (tw [.rn [(60052000, 60013000)]] (wr [] (es (es er_nil)) (bs_ br_nil))))))
 · intro F_sFold_J1 OK_sFold_J1 x4 b60013000_0 r h
   delta mosFold_L0 acsFold_L0
   refine loop_unroll (si (si (oi (sx 2 (ps (vI (ln b60013000_0)) (vop_lenT (n := 60013000) (l := b60013000_0.map cU8) (L := b60013000_0.length) (by kernel_rfl) (by kernel_rfl) (List.length_map ..)) (sx 1 (ni (xi ?_))))))))
   refine cd h (fun h => ?_) fun h => ?_
   refine ki (xi (si (bi (si (oi (sx 2 (iat_step (n := 60013000) (k := .i64) (i := x4) (l := b60013000_0) (f := cU8) (g := cU8) [] h (by kernel_rfl) (by kernel_rfl) (by kernel_rfl) (fun _ => rfl) (by kernel_rfl) (fun _ => rfl) fun y1 hiy1 h => ?_)))))))
   refine ps (.d (.i .u8 y1)) (vop_ldT (n := 60013000) (sz := 1) (i := (x4).toNat) (off := 0) (l := b60013000_0.map cU8) (c := [(.d (.i .u8 y1))]) (by kernel_rfl) (by kernel_rfl) (by kernel_rfl)) (sx 2 (gq 0 (gq 0 ?_)))
   refine gp true (decide (97 ≤ y1)) (.trp 60013000 1 (x4).toNat 0) (fun hc => vop_iaO (n := 60013000) (k := .i64) (i := x4) (l := b60013000_0.map cU8) (c := [(.d (.i .u8 y1))]) (idx_get hiy1).1 (by kernel_rfl) (Eq.trans (b := ([(true && ((decide (97 ≤ y1)) == true)), (true && ((decide (97 ≤ y1)) == true))] : List Bool).all id) (by kernel_rfl) (all_c hc (all_c hc rfl))) (by kernel_rfl) (by kernel_rfl)) ?_
   refine gp true (decide (97 ≤ y1)) (.d (.i .u8 y1)) (fun hc => vop_ldTg (n := 60013000) (sz := 1) (i := (x4).toNat) (off := 0) (l := b60013000_0.map cU8) (c := [(.d (.i .u8 y1))]) (Eq.trans (b := ([(true && ((decide (97 ≤ y1)) == true))] : List Bool).all id) (by kernel_rfl) (all_c hc rfl)) (by kernel_rfl) (by kernel_rfl) (by kernel_rfl)) (gq 1 (pkA h fun y2 h => (ni (xi ?_))))
   refine cd h (fun h => ?_) fun h => ?_
   refine oi (sx 4 (iao_step (n := 60013000) (k := .i64) (i := x4) (l := b60013000_0.map cU8) (c := [(.d (.i .u8 y1))]) (by kernel_rfl) (by kernel_rfl) (idx_get hiy1).1 (by kernel_rfl) (ps (.d (.i .u8 y1)) (vop_ldT (n := 60013000) (sz := 1) (i := (x4).toNat) (off := 0) (l := b60013000_0.map cU8) (c := [(.d (.i .u8 y1))]) (by kernel_rfl) (by kernel_rfl) (by kernel_rfl)) (sx 1 ?_))))
   refine iao_step (n := 60013000) (k := .i64) (i := x4) (l := b60013000_0.map cU8) (c := [(.d (.i .u8 y1))]) (by kernel_rfl) (by kernel_rfl) (idx_get hiy1).1 (by kernel_rfl) (stt_step (n := 60013000) (sz := 1) (i := (x4).toNat) (off := 0) (l := b60013000_0.map cU8) (c := [(.d (.i .u8 y1))]) (by kernel_rfl) (by kernel_rfl) (by kernel_rfl) rfl (ni (bn ?_)))
   exact nxs (OK_sFold_J1 _ _ _ h) (tw [.clo 60013000, .rn [(60013000, 60052000)]] (wr [] (es (es er_nil)) (bt_ (R := (b60013000_0.set (x4).toNat (IntKind.wrap .u8 (y1 - 32))).map cU8) (set_map (l := b60013000_0) (k := (x4).toNat) (x := (IntKind.wrap .u8 (y1 - 32))) (fun _ => rfl)) br_nil)))
   exact ki (bn (nxs (OK_sFold_J1 _ _ _ h) (tw [.clo 60013000, .rn [(60013000, 60052000)]] (wr [] (es (es er_nil)) (bt_ (R := (b60013000_0.set (x4).toNat y1).map cU8) (set_map (l := b60013000_0) (k := (x4).toNat) (x := y1) (fun _ => rfl)) br_nil)))))
   exact ei (te (te (bh (nxs (OK_sFold_J2 _ _ h) (tw [.frz [60013000]] (wr [] (es er_nil) br_nil))))))
theorem OK_sFold_J1 (x4 : Int) (b60052000_0 : (List Int)) (r : (List UInt8)) (h : sFold_J1 x4 b60052000_0 = some r) : mosFold_J1 x4 b60052000_0 r := (OKs_sFold_J1).1 x4 b60052000_0 r h
theorem OK_sFold_L0 (x4 : Int) (b60013000_0 : (List Int)) (r : (List UInt8)) (h : sFold_L0 x4 b60013000_0 = some r) : mosFold_L0 x4 b60013000_0 r := (OKs_sFold_J1).2 x4 b60013000_0 r h
theorem OK_sFold (p0 : (List UInt8)) : FOk Tryz.prog 56 [(vS p0)] (fun y => (vS y)) (sFold p0) := by
 intro r h
 rw [sFold] at h
 exact ao trsFold (si (oi (sx 1 (ni (xi (si (oi (sx 1 (csb_step (b := p0) (by kernel_rfl) (by kernel_rfl) rfl (sx 1 (ni (xi (si (si (oi (sx 1 (ni (xi (bi (lgs (OK_sFold_L0 _ _ _ h) (tw [.rn [(6, 60013000)]] (wr [] (es (es er_nil)) (bs_ br_nil)))))))))))))))))))))))
theorem OKs_sKeyOf_L0 (y1 : (List UInt8)) (y2 : (List (List UInt8))) : (∀ (x5 : Int) (r : Int), sKeyOf_L0 y1 y2 x5 = some r → mosKeyOf_L0 y1 y2 x5 r) := by
 refine sKeyOf_L0.partial_correctness y1 y2 (fun x5 r => mosKeyOf_L0 y1 y2 x5 r) ?_
 · intro F_sKeyOf_L0 OK_sKeyOf_L0 x5 r h
   delta mosKeyOf_L0 acsKeyOf_L0
   refine loop_unroll (si (si (oi (sx 2 (lq y2 (sx 1 (ni (xi ?_))))))))
   refine cd h (fun h => ?_) fun h => ?_
   refine ki (xi (si (bi (si (oi (sx 2 (iq h fun y3 h => (sx 3 (ni (xi ?_))))))))))
   refine cd h (fun h => ?_) fun h => ?_
   refine si (oi (sx 2 (ni (xi (ri (br (tr (tr (br (tr ?_))))))))))
   injection h with h; subst h
   exact rp
   exact ki (bn (xi (oi (sx 3 (ni (lbs (OK_sKeyOf_L0 _ _ h) (wr [(4, .old 4)] (es (eo 4 (es er_nil))) br_nil)))))))
   refine ei (te (te (bh (xi (si (oi (sx 1 (ni (xi (ri ?_))))))))))
   injection h with h; subst h
   exact rp
theorem OK_sKeyOf_L0 (y1 : (List UInt8)) (y2 : (List (List UInt8))) (x5 : Int) (r : Int) (h : sKeyOf_L0 y1 y2 x5 = some r) : mosKeyOf_L0 y1 y2 x5 r := (OKs_sKeyOf_L0 y1 y2) x5 r h
theorem OK_sKeyOf (p0 : (List UInt8)) : FOk Tryz.prog 55 [(vS p0)] (fun y => (vI y)) (sKeyOf p0) := by
 intro r h
 rw [sKeyOf] at h
 refine ao trsKeyOf (si (oi (sx 1 (ni (xi (si (si (oi (sx 3 (ni (xi ?_)))))))))))
 refine cd h (fun h => ?_) fun h => ?_
 refine si (oi (sx 1 (ni (xi (ri (tr ?_))))))
 injection h with h; subst h
 exact rp
 exact ki (xi (si (oi (sx 1 (cs h (OK_sFold _) fun y1 h => (sx 1 (ni (xi (si (oi (cg ⟨[], [], [], [], [], [(2000000, 11)], [], [11], []⟩ h (OK_sL2Words) fun y2 h => (sx 1 (ni (xi (si (si (oi (sx 1 (ni (xi (bi (lgs (OK_sKeyOf_L0 _ _ _ _ h) (wr [(4, .old 4)] (es (eo 4 (es er_nil))) br_nil)))))))))))))))))))))))
theorem OK_sNameOk (p0 : (List UInt8)) : FOk Tryz.prog 57 [(vS p0)] (fun y => (vB y)) (sNameOk p0) := by
 intro r h
 rw [sNameOk] at h
 refine ao trsNameOk (si (oi (sx 1 (ni (xi (si (oi (sx 2 (cs h (OK_sL1In _ _ _) fun y1 h => (sx 1 (ni (xi (ri ?_)))))))))))))
 injection h with h; subst h
 exact rp
theorem OKs_sDigits_J1 (p0 : Int) : (∀ (x0 : Int) (x4 : (List UInt8)) (x5 : Int) (r : (List UInt8)), sDigits_J1 x0 p0 x4 x5 = some r → mosDigits_J1 x0 p0 x4 x5 r) ∧ (∀ (x0 : Int) (x4 : (List UInt8)) (r : (List UInt8)), sDigits_L0 p0 x0 x4 = some r → mosDigits_L0 p0 x0 x4 r) := by
 refine sDigits_J1.mutual_partial_correctness p0 (fun x0 x4 x5 r => mosDigits_J1 x0 p0 x4 x5 r) (fun x0 x4 r => mosDigits_L0 p0 x0 x4 r) ?_ ?_
 · intro F_sDigits_L0 OK_sDigits_L0 x0 x4 x5 r h
   delta mosDigits_J1 acsDigits_J1
   refine si (oi (sx 3 (bsl_step (l := ([(IntKind.wrap .u8 (IntKind.wrap .i64 (48 + x5)))] : List Int)) (f := cU8) (g := cU8) (by kernel_rfl) (fun _ => rfl) (by kernel_rfl) (vs (fun (y : (List UInt8)) => (vS y)) h (fun y hy => vop_cbs (l := ([(IntKind.wrap .u8 (IntKind.wrap .i64 (48 + x5)))] : List Int)) hy (by kernel_rfl) (by kernel_rfl)) fun y2 h => (sx 1 ?_)))))
   exact vs (fun (y : (List UInt8)) => (vS y)) h (fun y hy => vop_cat (a := y2) (b := x4) hy (by kernel_rfl) (by kernel_rfl) (by kernel_rfl)) fun y3 h => (sx 1 (ni (xi (oi (sx 3 (ni (bn (lbs (OK_sDigits_L0 _ _ _ h) (wr [] (es (es (es er_nil))) br_nil)))))))))
 · intro F_sDigits_J1 OK_sDigits_J1 x0 x4 r h
   delta mosDigits_L0 acsDigits_L0
   refine loop_unroll (si (si (oi (sx 2 (ni (xi ?_))))))
   refine cd h (fun h => ?_) fun h => ?_
   refine ki (xi (bi (si (oi (sx 3 (ni (xi (si (si (oi (sx 2 (ni (xi ?_)))))))))))))
   refine cd h (fun h => ?_) fun h => ?_
   exact oi (sx 3 (ni (nxs (OK_sDigits_J1 _ _ _ _ h) (wr [] (es (es (es (es er_nil)))) br_nil))))
   exact ki (nxs (OK_sDigits_J1 _ _ _ _ h) (wr [] (es (es (es (es er_nil)))) br_nil))
   refine ei (te (te (bh (xi (si (si (oi (sx 1 (ni (xi ?_))))))))))
   refine cd h (fun h => ?_) fun h => ?_
   refine si (oi (sx 1 (vs (fun (y : (List UInt8)) => (vS y)) h (fun y hy => vop_cat (a := [45]) (b := x4) hy (by kernel_rfl) (by kernel_rfl) (by kernel_rfl)) fun y1 h => (sx 1 (ni (xi (ri (tr ?_))))))))
   injection h with h; subst h
   exact rp
   refine ki (xi (si (oi (sx 2 (ni (xi (ri ?_)))))))
   injection h with h; subst h
   exact rp
theorem OK_sDigits_J1 (x0 : Int) (p0 : Int) (x4 : (List UInt8)) (x5 : Int) (r : (List UInt8)) (h : sDigits_J1 x0 p0 x4 x5 = some r) : mosDigits_J1 x0 p0 x4 x5 r := (OKs_sDigits_J1 p0).1 x0 x4 x5 r h
theorem OK_sDigits_L0 (p0 : Int) (x0 : Int) (x4 : (List UInt8)) (r : (List UInt8)) (h : sDigits_L0 p0 x0 x4 = some r) : mosDigits_L0 p0 x0 x4 r := (OKs_sDigits_J1 p0).2 x0 x4 r h
theorem OK_sDigits (p0 : Int) : FOk Tryz.prog 42 [(vI p0)] (fun y => (vS y)) (sDigits p0) := by
 intro r h
 rw [sDigits] at h
 refine ao trsDigits (si (oi (sx 1 (ni (xi (si (si (oi (sx 2 (ni (xi ?_)))))))))))
 refine cd h (fun h => ?_) fun h => ?_
 refine si (oi (sx 1 (ni (xi (ri (tr ?_))))))
 injection h with h; subst h
 exact rp
 exact ki (xi (si (oi (sx 3 (ni (xi (si (oi (sx 1 (ni (xi (si (bi (lgs (OK_sDigits_L0 _ _ _ _ h) (wr [] (es (es (es er_nil))) br_nil)))))))))))))))
theorem OKs_sNumber_L0 (p0 : (List UInt8)) : (∀ (x4 : Int) (x5 : Int) (r : Int × Bool), sNumber_L0 p0 x4 x5 = some r → mosNumber_L0 p0 x4 x5 r) := by
 refine sNumber_L0.partial_correctness p0 (fun x4 x5 r => mosNumber_L0 p0 x4 x5 r) ?_
 · intro F_sNumber_L0 OK_sNumber_L0 x4 x5 r h
   delta mosNumber_L0 acsNumber_L0
   refine loop_unroll (si (si (oi (sx 4 (ni (xi ?_))))))
   refine cd h (fun h => ?_) fun h => ?_
   refine ki (xi (si (bi (si (si (oi (sx 2 (vs (fun (y : Int) => (.d (.i .u8 y))) h (fun y hy => vop_ix (b := p0) (k := .i64) hy (by kernel_rfl) (by kernel_rfl) (by kernel_rfl)) fun y2 h => (sx 2 (gq 0 (gq 0 ?_)))))))))))
   refine gv true (decide (y2 < 48)) (fun (y : Int) => (.d (.i .u8 y))) h (fun y hy hc => vop_ix (b := p0) (k := .i64) hy (Eq.trans (b := ([(true && ((decide (y2 < 48)) == false)), (true && ((decide (y2 < 48)) == false))] : List Bool).all id) (by kernel_rfl) (all_c hc (all_c hc rfl))) (by kernel_rfl) (by kernel_rfl)) fun y3 h => (gq 1 (pkO h fun y4 h => (ni (xi ?_))))
   refine cd h (fun h => ?_) fun h => ?_
   refine si (oi (sx 2 (ni (xi (ri (tr (br (tr (tr (br (tr ?_)))))))))))
   injection h with h; subst h
   exact rnp
   refine ki (xi (si (oi (sx 2 (vs (fun (y : Int) => (.d (.i .u8 y))) h (fun y hy => vop_ix (b := p0) (k := .i64) hy (by kernel_rfl) (by kernel_rfl) (by kernel_rfl)) fun y5 h => (sx 3 (ni (xi (si (si (oi (sx 5 (ni (xi ?_))))))))))))))
   refine cd h (fun h => ?_) fun h => ?_
   refine si (oi (sx 2 (ni (xi (ri (tr (br (tr (tr (br (tr ?_)))))))))))
   injection h with h; subst h
   exact rnp
   exact ki (xi (oi (sx 5 (ni (bn (xi (oi (sx 3 (ni (lbs (OK_sNumber_L0 _ _ _ h) (wr [] (es (es (es er_nil))) br_nil)))))))))))
   refine ei (te (te (bh (xi (si (si (oi (sx 1 (cs h (OK_sDigits _) fun y6 h => (sx 2 (ni (xi ?_))))))))))))
   refine cd h (fun h => ?_) fun h => ?_
   refine si (oi (sx 2 (ni (xi (ri (tr ?_))))))
   injection h with h; subst h
   exact rnp
   refine ki (xi (si (oi (sx 3 (ni (xi (ri ?_)))))))
   injection h with h; subst h
   exact rnp
theorem OK_sNumber_L0 (p0 : (List UInt8)) (x4 : Int) (x5 : Int) (r : Int × Bool) (h : sNumber_L0 p0 x4 x5 = some r) : mosNumber_L0 p0 x4 x5 r := (OKs_sNumber_L0 p0) x4 x5 r h
theorem OK_sNumber (p0 : (List UInt8)) : FOk Tryz.prog 30 [(vS p0)] (fun y => (.tup [(vI y.1), (vB y.2)])) (sNumber p0) := by
 intro r h
 rw [sNumber] at h
 refine ao trsNumber (si (oi (sx 2 (ni (xi (si (si (oi (sx 4 (gq 0 (gq 1 (gq 1 (pkO h fun y1 h => (ni (xi ?_)))))))))))))))
 refine cd h (fun h => ?_) fun h => ?_
 refine si (oi (sx 2 (ni (xi (ri (tr ?_))))))
 injection h with h; subst h
 exact rnp
 exact ki (xi (si (oi (sx 1 (ni (xi (si (si (oi (sx 1 (ni (xi (bi (lgs (OK_sNumber_L0 _ _ _ _ h) (wr [] (es (es (es er_nil))) br_nil)))))))))))))))
theorem OK_sSignOk_J0 (x4 : Bool) (r : Bool) (h : sSignOk_J0 x4 = some r) : mosSignOk_J0 x4 r := by
 rw [sSignOk_J0] at h
 delta mosSignOk_J0 acsSignOk_J0
 refine cd h (fun h => ?_) fun h => ?_
 refine si (oi (sx 1 (ni (xi (ri (br (tr ?_)))))))
 injection h with h; subst h
 exact rp
 refine ki (bn (xi (si (oi (sx 1 (ni (xi (ri ?_))))))))
 injection h with h; subst h
 exact rp
theorem OK_sSignOk (p0 : (List UInt8)) : FOk Tryz.prog 58 [(vS p0)] (fun y => (vB y)) (sSignOk p0) := by
 intro r h
 rw [sSignOk] at h
 refine ao trsSignOk (si (oi (sx 1 (ni (xi (si (si (oi (sx 1 (ni (xi (bi (si (si (oi (sx 2 (ni (xi ?_))))))))))))))))))
 refine cd h (fun h => ?_) fun h => ?_
 exact ki (nxs (OK_sSignOk_J0 _ _ h) (wr [] (es er_nil) br_nil))
 refine si (oi (sx 2 (ni (xi ?_))))
 refine cd h (fun h => ?_) fun h => ?_
 exact ki (nxs (OK_sSignOk_J0 _ _ h) (wr [] (es er_nil) br_nil))
 refine si (oi (sx 2 (ni (xi ?_))))
 refine cd h (fun h => ?_) fun h => ?_
 exact ki (nxs (OK_sSignOk_J0 _ _ h) (wr [] (es er_nil) br_nil))
 refine si (oi (sx 2 (ni (xi ?_))))
 refine cd h (fun h => ?_) fun h => ?_
 exact ki (nxs (OK_sSignOk_J0 _ _ h) (wr [] (es er_nil) br_nil))
 refine si (oi (sx 2 (ni (xi ?_))))
 refine cd h (fun h => ?_) fun h => ?_
 exact ki (nxs (OK_sSignOk_J0 _ _ h) (wr [] (es er_nil) br_nil))
 refine si (oi (sx 2 (ni (xi ?_))))
 refine cd h (fun h => ?_) fun h => ?_
 exact ki (nxs (OK_sSignOk_J0 _ _ h) (wr [] (es er_nil) br_nil))
 refine si (oi (sx 2 (ni (xi ?_))))
 refine cd h (fun h => ?_) fun h => ?_
 exact ki (nxs (OK_sSignOk_J0 _ _ h) (wr [] (es er_nil) br_nil))
 refine si (oi (sx 2 (ni (xi ?_))))
 refine cd h (fun h => ?_) fun h => ?_
 exact ki (nxs (OK_sSignOk_J0 _ _ h) (wr [] (es er_nil) br_nil))
 refine si (oi (sx 2 (ni (xi ?_))))
 refine cd h (fun h => ?_) fun h => ?_
 exact ki (nxs (OK_sSignOk_J0 _ _ h) (wr [] (es er_nil) br_nil))
 refine si (oi (sx 2 (ni (xi ?_))))
 refine cd h (fun h => ?_) fun h => ?_
 exact ki (nxs (OK_sSignOk_J0 _ _ h) (wr [] (es er_nil) br_nil))
 refine si (oi (sx 2 (ni (xi ?_))))
 refine cd h (fun h => ?_) fun h => ?_
 exact ki (nxs (OK_sSignOk_J0 _ _ h) (wr [] (es er_nil) br_nil))
 refine si (oi (sx 2 (ni (xi ?_))))
 refine cd h (fun h => ?_) fun h => ?_
 exact ki (nxs (OK_sSignOk_J0 _ _ h) (wr [] (es er_nil) br_nil))
 refine si (oi (sx 2 (ni (xi ?_))))
 refine cd h (fun h => ?_) fun h => ?_
 exact ki (nxs (OK_sSignOk_J0 _ _ h) (wr [] (es er_nil) br_nil))
 refine si (oi (sx 2 (ni (xi ?_))))
 refine cd h (fun h => ?_) fun h => ?_
 exact ki (nxs (OK_sSignOk_J0 _ _ h) (wr [] (es er_nil) br_nil))
 refine si (oi (sx 2 (ni (xi ?_))))
 refine cd h (fun h => ?_) fun h => ?_
 exact ki (nxs (OK_sSignOk_J0 _ _ h) (wr [] (es er_nil) br_nil))
 exact oi (sx 2 (ni (nxs (OK_sSignOk_J0 _ _ h) (wr [] (es er_nil) br_nil))))
theorem OK_sTokenOk (p0 : GToken) : FOk Tryz.prog 41 [(vGToken p0)] (fun y => (vB y)) (sTokenOk p0) := by
 intro r h
 rw [sTokenOk] at h
 refine ao trsTokenOk (si (oi (sx 2 (ni (xi (si (si (oi (sx 2 (ni (xi (bi (si (oi (sx 2 (ni (xi ?_)))))))))))))))))
 refine cd h (fun h => ?_) fun h => ?_
 refine si (dops_in (dsx 2 (dcs h (OK_sKeyOf _) fun y1 h => (dsx 2 (dgq 0 (dgq 1 (dgc 1 h (OK_sFold _) fun y2 h => (dgq 0 (dgq 1 (dgq 2 (dpkA h fun y3 h => (dsx 1 (dnil_in (by kernel_rfl) (by kernel_rfl) (xi (ri (br (tr ?_)))))))))))))))))
 injection h with h; subst h
 exact rp
 refine si (oi (sx 2 (ni (xi ?_))))
 refine cd h (fun h => ?_) fun h => ?_
 refine si (oi (sx 2 (cs h (OK_sNameOk _) fun y4 h => (sx 1 (ni (xi (ri (br (tr ?_)))))))))
 injection h with h; subst h
 exact rp
 refine si (oi (sx 2 (ni (xi ?_))))
 refine cd h (fun h => ?_) fun h => ?_
 refine si (oi (sx 2 (cs h (OK_sNumber _) fun y5 h => (sx 5 (ni (xi (si (oi (sx 2 (ni (xi (ri (br (tr ?_))))))))))))))
 injection h with h; subst h
 exact rp
 refine si (oi (sx 2 (ni (xi ?_))))
 refine cd h (fun h => ?_) fun h => ?_
 refine si (oi (sx 5 (ni (xi (ri (br (tr ?_)))))))
 injection h with h; subst h
 exact rp
 refine si (oi (sx 2 (ni (xi ?_))))
 refine cd h (fun h => ?_) fun h => ?_
 refine si (oi (sx 2 (cs h (OK_sSignOk _) fun y6 h => (sx 1 (ni (xi (ri (br (tr ?_)))))))))
 injection h with h; subst h
 exact rp
 refine ki (bn (xi (si (oi (sx 1 (ni (xi (ri ?_))))))))
 injection h with h; subst h
 exact rp
theorem OK_sL12Kind (p0 : GL12In) (p1 : Int) : FOkB Tryz.prog 29 [(.ptr 1000000 0), (vI p1)] [(1000000, bGL12In p0)] (fun (y : Bool) => (vB y)) (fun (y : Bool) => [(1000000, bGL12In p0)]) (sL12Kind p0 p1) := by
 intro r h
 rw [sL12Kind] at h
 refine ao trsL12Kind (si (oi (sx 1 (ni (xi (si (oi (sx 1 (cg ⟨[(1000000, 1000000)], [], [], [], [], [], [], [], []⟩ h (OK_sL12Next _ _) fun y1 h => (sx 2 (ni (xi (si (oi (sx 5 (gq 0 (gc 1 h (OK_sTokenOk _) fun y2 h => (pkA h fun y3 h => (sx 1 (ni (xi (ri ?_))))))))))))))))))))))
 injection h with h; subst h
 exact rb
theorem OK_sL12Text (p0 : GL12In) (p1 : Int) : FOkB Tryz.prog 31 [(.ptr 1000000 0), (vI p1)] [(1000000, bGL12In p0)] (fun (y : (List UInt8) × GL12In) => (vS y.1)) (fun (y : (List UInt8) × GL12In) => [(1000000, bGL12In y.2)]) (sL12Text p0 p1) := by
 intro r h
 rw [sL12Text] at h
 refine ao trsL12Text (si (oi (sx 1 (ni (xi (si (oi (sx 1 (cg ⟨[(1000000, 1000000)], [], [], [], [], [], [], [], []⟩ h (OK_sL12Next _ _) fun y1 h => (sx 2 (ni (xi (si (oi (sx 3 (cg ⟨[(1000000, 1000000)], [], [], [], [], [], [], [], []⟩ h (OK_sL12Kind _ _) fun y2 h => (cg ⟨[(1000000, 1000000)], [], [], [], [], [], [], [], []⟩ h (OK_sL12Step _ _) fun y3 h => (ni (xi (si (si (oi (sx 4 (ni ?_))))))))))))))))))))))))
 refine xi ?_
 refine cd h (fun h => ?_) fun h => ?_
 refine si (oi (sx 1 (ni (xi (ri (tr ?_))))))
 injection h with h; subst h
 exact rb
 refine ki (xi (si (oi (sx 3 (ni (xi (ri ?_)))))))
 injection h with h; subst h
 exact rb
theorem OK_sL12As (p0 : GL12In) : FOkB Tryz.prog 59 [(.ptr 1000000 0)] [(1000000, bGL12In p0)] (fun (y : (List UInt8) × GL12In) => (vS y.1)) (fun (y : (List UInt8) × GL12In) => [(1000000, bGL12In y.2)]) (sL12As p0) := by
 intro r h
 rw [sL12As] at h
 refine ao trsL12As (si (oi (sx 1 (ni (xi (si (si (oi (sx 1 (cg ⟨[(1000000, 1000000)], [], [], [], [], [], [], [], []⟩ h (OK_sL12Maybe _ _) fun y1 h => (ni (xi ?_))))))))))))
 refine cd h (fun h => ?_) fun h => ?_
 refine si (oi (sx 1 (cg ⟨[(1000000, 1000000)], [], [], [], [], [], [], [], []⟩ h (OK_sL12Text _ _) fun y2 h => (sx 1 (ni (xi (ri (tr ?_))))))))
 injection h with h; subst h
 exact rb
 refine ki (xi (si (oi (sx 1 (ni (xi (ri ?_)))))))
 injection h with h; subst h
 exact rb
theorem OK_sL12Sign (p0 : GL12In) (p1 : (List UInt8)) : FOkB Tryz.prog 20 [(.ptr 1000000 0), (vS p1)] [(1000000, bGL12In p0)] (fun (y : Bool) => (vB y)) (fun (y : Bool) => [(1000000, bGL12In p0)]) (sL12Sign p0 p1) := by
 intro r h
 rw [sL12Sign] at h
 refine ao trsL12Sign (si (oi (sx 1 (ni (xi (si (oi (sx 1 (cg ⟨[(1000000, 1000000)], [], [], [], [], [], [], [], []⟩ h (OK_sL12Next _ _) fun y1 h => (sx 2 (ni (xi (si (oi (sx 4 (gq 0 (gq 1 (gq 0 (gq 2 (pkA h fun y2 h => (sx 1 (ni (xi (ri ?_))))))))))))))))))))))))
 injection h with h; subst h
 exact rb
theorem OK_sL12Query_J5 (y3 : Bool × GL12In) (b3_1 : (List GItem)) (b3_2 : (List GSource)) (y29 : (List GExpr) × GL12In) (b3_4_38 : (List GSortKey)) (b3_5 : Int) (b1000000_0_50 : (List GToken)) (b1000000_1_51 : Int) (b1000000_2_52 : Bool) (r : GQuery × GL12In) (h : sL12Query_J5 y3 b3_1 b3_2 y29 b3_4_38 b3_5 b1000000_0_50 b1000000_1_51 b1000000_2_52 = some r) : mosL12Query_J5 y3 b3_1 b3_2 y29 b3_4_38 b3_5 b1000000_0_50 b1000000_1_51 b1000000_2_52 r := by
 rw [sL12Query_J5] at h
 delta mosL12Query_J5 acsL12Query_J5
 refine si (oi (sx 2 (ni (xi (ri ?_)))))
 injection h with h; subst h
 exact rb
theorem OK_sL12Query_J4 (y3 : Bool × GL12In) (b3_1 : (List GItem)) (b3_2 : (List GSource)) (y29 : (List GExpr) × GL12In) (b3_4_38 : (List GSortKey)) (b1000000_0_39 : (List GToken)) (b1000000_1_40 : Int) (b1000000_2_41 : Bool) (r : GQuery × GL12In) (h : sL12Query_J4 y3 b3_1 b3_2 y29 b3_4_38 b1000000_0_39 b1000000_1_40 b1000000_2_41 = some r) : mosL12Query_J4 y3 b3_1 b3_2 y29 b3_4_38 b1000000_0_39 b1000000_1_40 b1000000_2_41 r := by
 rw [sL12Query_J4] at h
 delta mosL12Query_J4 acsL12Query_J4
 refine si (si (oi (sx 1 (cg ⟨[(1000000, 1000000)], [], [], [], [], [], [], [], []⟩ h (OK_sL12Maybe _ _) fun y47 h => (ni (xi ?_))))))
 refine cd h (fun h => ?_) fun h => ?_
 refine oi (sx 1 (cg ⟨[(1000000, 1000000)], [], [], [], [], [], [], [], []⟩ h (OK_sL12Text _ _) fun y48 h => (cs h (OK_sNumber _) fun y49 h => (sx 5 (ni ?_)))))
 exact nxs (OK_sL12Query_J5 _ _ _ _ _ _ _ _ _ _ h) (wr [(18, .old 18), (40, .old 40), (70, .old 70), (83, .old 83)] (es (es er_nil)) (bs_ (br_cons (c0 := [(vB y3.1), (.osl 18 80 13 (b3_1.map cGItem)), (.osl 40 83 3 (b3_2.map cGSource)), (.osl 70 37 10 (y29.1.map cGExpr)), (.osl 83 87 11 (b3_4_38.map cGSortKey)), (vI y49.1)]) (by kernel_rfl) (vrs_cons (vr_same (by kernel_rfl) (by kernel_rfl)) (vrs_cons (vr_old (t := 18) (by kernel_rfl) (by kernel_rfl)) (vrs_cons (vr_old (t := 40) (by kernel_rfl) (by kernel_rfl)) (vrs_cons (vr_old (t := 70) (by kernel_rfl) (by kernel_rfl)) (vrs_cons (vr_old (t := 83) (by kernel_rfl) (by kernel_rfl)) (vrs_cons (vr_same (by kernel_rfl) (by kernel_rfl)) (vrs_nil))))))) (bs_ br_nil))))
 refine ki ?_
 exact nxs (OK_sL12Query_J5 _ _ _ _ _ _ _ _ _ _ h) (wr [(18, .old 18), (40, .old 40), (70, .old 70), (83, .old 83)] (es (es er_nil)) (bs_ (br_cons (c0 := [(vB y3.1), (.osl 18 80 13 (b3_1.map cGItem)), (.osl 40 83 3 (b3_2.map cGSource)), (.osl 70 37 10 (y29.1.map cGExpr)), (.osl 83 87 11 (b3_4_38.map cGSortKey)), (vI (-1))]) (by kernel_rfl) (vrs_cons (vr_same (by kernel_rfl) (by kernel_rfl)) (vrs_cons (vr_old (t := 18) (by kernel_rfl) (by kernel_rfl)) (vrs_cons (vr_old (t := 40) (by kernel_rfl) (by kernel_rfl)) (vrs_cons (vr_old (t := 70) (by kernel_rfl) (by kernel_rfl)) (vrs_cons (vr_old (t := 83) (by kernel_rfl) (by kernel_rfl)) (vrs_cons (vr_same (by kernel_rfl) (by kernel_rfl)) (vrs_nil))))))) (bs_ br_nil))))
theorem OK_sL12Source (p0 : GL12In) : FOkB Tryz.prog 44 [(.ptr 1000000 0)] [(1000000, bGL12In p0)] (fun (y : GSource × GL12In) => (vGSource y.1)) (fun (y : GSource × GL12In) => [(1000000, bGL12In y.2)]) (sL12Source p0) := by
 intro r h
 rw [sL12Source] at h
 refine ao trsL12Source (si (oi (sx 1 (ni (xi (si (oi (sx 1 (cg ⟨[(1000000, 1000000)], [], [], [], [], [], [], [], []⟩ h (OK_sL12Text _ _) fun y1 h => (sx 1 (ni (xi (si (oi (sx 2 (cg ⟨[(1000000, 1000000)], [], [], [], [], [], [], [], []⟩ h (OK_sL12As _) fun y2 h => (bldv_step (c := [(vS y1.1), (vS y2.1), (.nil 10)]) (by kernel_rfl) (by kernel_rfl) rfl (sx 1 (ni (xi ?_))))))))))))))))))))
 refine ret_wk (s' := ⟨[(2, (.ptr 2 0))], [(2, bGSource (GSource.mk y1.1 y2.1 ([] : List GExpr))), (1000000, bGL12In y2.2)]⟩) (wr [] (es er_nil) (br_cons (c0 := [(vS y1.1), (vS y2.1), (.nil 10)]) (by kernel_rfl) (vrs_cons (vr_same (by kernel_rfl) (by kernel_rfl)) (vrs_cons (vr_same (by kernel_rfl) (by kernel_rfl)) (vrs_cons (vr_weak (by kernel_rfl) (by kernel_rfl)) (vrs_nil)))) (br_cons (c0 := [(.d (.sl 3 (y2.2.t.map cGToken))), (vI y2.2.at_), (vB y2.2.bad)]) (by kernel_rfl) (vrs_cons (vr_same (by kernel_rfl) (by kernel_rfl)) (vrs_cons (vr_same (by kernel_rfl) (by kernel_rfl)) (vrs_cons (vr_same (by kernel_rfl) (by kernel_rfl)) (vrs_nil)))) br_nil))) ?_
 injection h with h; subst h
 exact rb
theorem OK_sL12Expr_J1 (b5_0 : Int) (b5_1 : Int) (b5_2 : Bool) (b5_3 : Int) (b5_4 : Int) (b5_5 : (List UInt8)) (b5_6 : (List UInt8)) (b5_7 : (List UInt8)) (b5_8 : (List GExpr)) (b5_9 : (List GQuery)) (b1000000_0 : (List GToken)) (b1000000_1 : Int) (b1000000_2 : Bool) (r : GExpr × GL12In) (h : sL12Expr_J1 b5_0 b5_1 b5_2 b5_3 b5_4 b5_5 b5_6 b5_7 b5_8 b5_9 b1000000_0 b1000000_1 b1000000_2 = some r) : mosL12Expr_J1 b5_0 b5_1 b5_2 b5_3 b5_4 b5_5 b5_6 b5_7 b5_8 b5_9 b1000000_0 b1000000_1 b1000000_2 r := by
 rw [sL12Expr_J1] at h
 delta mosL12Expr_J1 acsL12Expr_J1
 refine si (oi (sx 2 (ni (xi (ri ?_)))))
 injection h with h; subst h
 exact rb
theorem OK_sBoolValue (p0 : Bool) : FOk Tryz.prog 33 [(vB p0)] (fun y => (vGValue y)) (sBoolValue p0) := by
 intro r h
 rw [sBoolValue] at h
 refine ao trsBoolValue (si (oi (sx 1 (ni (xi (si (si (oi (sx 1 (ni (xi ?_)))))))))))
 refine cd h (fun h => ?_) fun h => ?_
 refine si (oi (sx 2 (ni (xi (ri (tr ?_))))))
 injection h with h; subst h
 exact rp
 refine ki (xi (si (oi (sx 2 (ni (xi (ri ?_)))))))
 injection h with h; subst h
 exact rp
theorem OK_sL12Prim_J0 (b4_6 : (List UInt8)) (b4_7 : (List UInt8)) (b1000000_0 : (List GToken)) (b1000000_1 : Int) (b1000000_2 : Bool) (r : GExpr × GL12In) (h : sL12Prim_J0 b4_6 b4_7 b1000000_0 b1000000_1 b1000000_2 = some r) : mosL12Prim_J0 b4_6 b4_7 b1000000_0 b1000000_1 b1000000_2 r := by
 rw [sL12Prim_J0] at h
 delta mosL12Prim_J0 acsL12Prim_J0
 refine si (oi (sx 2 (ni (xi ?_))))
 refine ret_wk (s' := ⟨[(2, (.ptr 2 0))], [(2, bGExpr (GExpr.mk 2 0 false (GValue.mk 0 0 []) b4_6 b4_7 ([] : List GExpr) ([] : List GQuery))), (1000000, bGL12In (GL12In.mk b1000000_0 b1000000_1 b1000000_2))]⟩) (wr [] (es er_nil) (br_cons (c0 := [(vI 2), (vI 0), (vB false), (vI 0), (vI 0), (vS []), (vS b4_6), (vS b4_7), (.nil 10), (.nil 6)]) (by kernel_rfl) (vrs_cons (vr_same (by kernel_rfl) (by kernel_rfl)) (vrs_cons (vr_same (by kernel_rfl) (by kernel_rfl)) (vrs_cons (vr_same (by kernel_rfl) (by kernel_rfl)) (vrs_cons (vr_same (by kernel_rfl) (by kernel_rfl)) (vrs_cons (vr_same (by kernel_rfl) (by kernel_rfl)) (vrs_cons (vr_same (by kernel_rfl) (by kernel_rfl)) (vrs_cons (vr_same (by kernel_rfl) (by kernel_rfl)) (vrs_cons (vr_same (by kernel_rfl) (by kernel_rfl)) (vrs_cons (vr_weak (by kernel_rfl) (by kernel_rfl)) (vrs_cons (vr_weak (by kernel_rfl) (by kernel_rfl)) (vrs_nil))))))))))) (br_cons (c0 := [(.d (.sl 3 (b1000000_0.map cGToken))), (vI b1000000_1), (vB b1000000_2)]) (by kernel_rfl) (vrs_cons (vr_same (by kernel_rfl) (by kernel_rfl)) (vrs_cons (vr_same (by kernel_rfl) (by kernel_rfl)) (vrs_cons (vr_same (by kernel_rfl) (by kernel_rfl)) (vrs_nil)))) br_nil))) ?_
 refine br (tr ?_)
 injection h with h; subst h
 exact rb
theorem OK_sTextValue (p0 : (List UInt8)) : FOk Tryz.prog 32 [(vS p0)] (fun y => (vGValue y)) (sTextValue p0) := by
 intro r h
 rw [sTextValue] at h
 refine ao trsTextValue (si (oi (sx 1 (ni (xi (si (oi (sx 3 (ni (xi (ri ?_)))))))))))
 injection h with h; subst h
 exact rp
theorem OKs_sL12Prim : (∀ (p0 : GL12In) (r : GExpr × GL12In), sL12Prim p0 = some r → ACalls Tryz.prog 22 [(.ptr 1000000 0)] [(1000000, bGL12In p0)] fun x b => x = (fun (y : GExpr × GL12In) => (vGExpr y.1)) r ∧ bxHas ((fun (y : GExpr × GL12In) => [(1000000, bGL12In y.2)]) r) b) ∧ (∀ (p0 : GL12In) (p1 : Int) (r : GExpr × GL12In), sL12Expr p0 p1 = some r → ACalls Tryz.prog 14 [(.ptr 1000000 0), (vI p1)] [(1000000, bGL12In p0)] fun x b => x = (fun (y : GExpr × GL12In) => (vGExpr y.1)) r ∧ bxHas ((fun (y : GExpr × GL12In) => [(1000000, bGL12In y.2)]) r) b) ∧ (∀ (p1 : Int) (b5_0 : Int) (b5_1 : Int) (b5_2 : Bool) (b5_3 : Int) (b5_4 : Int) (kb5_5 : ((List UInt8) × ((List UInt8) × ((List UInt8) × ((List GExpr) × ((List GQuery) × ((List GToken) × (Int × Bool)))))))) (r : GExpr × GL12In), sL12Expr_L0 p1 b5_0 b5_1 b5_2 b5_3 b5_4 kb5_5 = some r → mosL12Expr_L0 p1 b5_0 b5_1 b5_2 b5_3 b5_4 kb5_5 r) ∧ (∀ (p0 : GL12In) (r : GExpr × GL12In), sL12Cmp p0 = some r → ACalls Tryz.prog 19 [(.ptr 1000000 0)] [(1000000, bGL12In p0)] fun x b => x = (fun (y : GExpr × GL12In) => (vGExpr y.1)) r ∧ bxHas ((fun (y : GExpr × GL12In) => [(1000000, bGL12In y.2)]) r) b) ∧ (∀ (p0 : GL12In) (p1 : GExpr) (p2 : Bool) (r : GExpr × GL12In), sL12Within p0 p1 p2 = some r → ACalls Tryz.prog 27 [(.ptr 1000000 0), (vGExpr p1), (vB p2)] [(1000000, bGL12In p0)] fun x b => x = (fun (y : GExpr × GL12In) => (vGExpr y.1)) r ∧ bxHas ((fun (y : GExpr × GL12In) => [(1000000, bGL12In y.2)]) r) b) ∧ (∀ (p2 : Bool) (x8 : (List GExpr)) (b1000000_0 : (List GToken)) (b1000000_1 : Int) (b1000000_2 : Bool) (r : GExpr × GL12In), sL12Within_L0 p2 x8 b1000000_0 b1000000_1 b1000000_2 = some r → mosL12Within_L0 p2 x8 b1000000_0 b1000000_1 b1000000_2 r) ∧ (∀ (p0 : GL12In) (r : GQuery × GL12In), sL12Query p0 = some r → ACalls Tryz.prog 34 [(.ptr 1000000 0)] [(1000000, bGL12In p0)] fun x b => x = (fun (y : GQuery × GL12In) => (vGQuery y.1)) r ∧ bxHas ((fun (y : GQuery × GL12In) => [(1000000, bGL12In y.2)]) r) b) ∧ (∀ (y3 : Bool × GL12In) (b3_1 : (List GItem)) (b1000000_0 : (List GToken)) (b1000000_1 : Int) (b1000000_2 : Bool) (r : GQuery × GL12In), sL12Query_L0 y3 b3_1 b1000000_0 b1000000_1 b1000000_2 = some r → mosL12Query_L0 y3 b3_1 b1000000_0 b1000000_1 b1000000_2 r) ∧ (∀ (y3 : Bool × GL12In) (b3_1 : (List GItem)) (b3_2 : (List GSource)) (b1000000_0_14 : (List GToken)) (b1000000_1_15 : Int) (b1000000_2_16 : Bool) (r : GQuery × GL12In), sL12Query_L1 y3 b3_1 b3_2 b1000000_0_14 b1000000_1_15 b1000000_2_16 = some r → mosL12Query_L1 y3 b3_1 b3_2 b1000000_0_14 b1000000_1_15 b1000000_2_16 r) ∧ (∀ (y3 : Bool × GL12In) (b3_1 : (List GItem)) (b3_2 : (List GSource)) (y29 : (List GExpr) × GL12In) (b3_4 : (List GSortKey)) (b1000000_0_35 : (List GToken)) (kb1000000_1_36 : (Int × Bool)) (r : GQuery × GL12In), sL12Query_L3 y3 b3_1 b3_2 y29 b3_4 b1000000_0_35 kb1000000_1_36 = some r → mosL12Query_L3 y3 b3_1 b3_2 y29 b3_4 b1000000_0_35 kb1000000_1_36 r) ∧ (∀ (p0 : GL12In) (r : GSortKey × GL12In), sL12Sort p0 = some r → ACalls Tryz.prog 46 [(.ptr 1000000 0)] [(1000000, bGL12In p0)] fun x b => x = (fun (y : GSortKey × GL12In) => (vGSortKey y.1)) r ∧ bxHas ((fun (y : GSortKey × GL12In) => [(1000000, bGL12In y.2)]) r) b) ∧ (∀ (p0 : GL12In) (r : (List GExpr) × GL12In), sL12Where p0 = some r → ACalls Tryz.prog 45 [(.ptr 1000000 0)] [(1000000, bGL12In p0)] fun x b => x = (fun (y : (List GExpr) × GL12In) => (.osl 2000000 37 10 (y.1.map cGExpr))) r ∧ bxHas ((fun (y : (List GExpr) × GL12In) => [(1000000, bGL12In y.2)]) r) b) ∧ (∀ (y3 : Bool × GL12In) (b3_1 : (List GItem)) (b3_2 : (List GSource)) (y22 : GSource × GL12In) (b5_2 : (List GExpr)) (b1000000_0_26 : (List GToken)) (kb1000000_1_27 : (Int × Bool)) (r : GQuery × GL12In), sL12Query_J2 y3 b3_1 b3_2 y22 b5_2 b1000000_0_26 kb1000000_1_27 = some r → mosL12Query_J2 y3 b3_1 b3_2 y22 b5_2 b1000000_0_26 kb1000000_1_27 r) ∧ (∀ (p0 : GL12In) (r : GItem × GL12In), sL12Item p0 = some r → ACalls Tryz.prog 43 [(.ptr 1000000 0)] [(1000000, bGL12In p0)] fun x b => x = (fun (y : GItem × GL12In) => (vGItem y.1)) r ∧ bxHas ((fun (y : GItem × GL12In) => [(1000000, bGL12In y.2)]) r) b) := by
 refine sL12Prim.mutual_partial_correctness (fun p0 r => ACalls Tryz.prog 22 [(.ptr 1000000 0)] [(1000000, bGL12In p0)] fun x b => x = (fun (y : GExpr × GL12In) => (vGExpr y.1)) r ∧ bxHas ((fun (y : GExpr × GL12In) => [(1000000, bGL12In y.2)]) r) b) (fun p0 p1 r => ACalls Tryz.prog 14 [(.ptr 1000000 0), (vI p1)] [(1000000, bGL12In p0)] fun x b => x = (fun (y : GExpr × GL12In) => (vGExpr y.1)) r ∧ bxHas ((fun (y : GExpr × GL12In) => [(1000000, bGL12In y.2)]) r) b) (fun p1 b5_0 b5_1 b5_2 b5_3 b5_4 kb5_5 r => mosL12Expr_L0 p1 b5_0 b5_1 b5_2 b5_3 b5_4 kb5_5 r) (fun p0 r => ACalls Tryz.prog 19 [(.ptr 1000000 0)] [(1000000, bGL12In p0)] fun x b => x = (fun (y : GExpr × GL12In) => (vGExpr y.1)) r ∧ bxHas ((fun (y : GExpr × GL12In) => [(1000000, bGL12In y.2)]) r) b) (fun p0 p1 p2 r => ACalls Tryz.prog 27 [(.ptr 1000000 0), (vGExpr p1), (vB p2)] [(1000000, bGL12In p0)] fun x b => x = (fun (y : GExpr × GL12In) => (vGExpr y.1)) r ∧ bxHas ((fun (y : GExpr × GL12In) => [(1000000, bGL12In y.2)]) r) b) (fun p2 x8 b1000000_0 b1000000_1 b1000000_2 r => mosL12Within_L0 p2 x8 b1000000_0 b1000000_1 b1000000_2 r) (fun p0 r => ACalls Tryz.prog 34 [(.ptr 1000000 0)] [(1000000, bGL12In p0)] fun x b => x = (fun (y : GQuery × GL12In) => (vGQuery y.1)) r ∧ bxHas ((fun (y : GQuery × GL12In) => [(1000000, bGL12In y.2)]) r) b) (fun y3 b3_1 b1000000_0 b1000000_1 b1000000_2 r => mosL12Query_L0 y3 b3_1 b1000000_0 b1000000_1 b1000000_2 r) (fun y3 b3_1 b3_2 b1000000_0_14 b1000000_1_15 b1000000_2_16 r => mosL12Query_L1 y3 b3_1 b3_2 b1000000_0_14 b1000000_1_15 b1000000_2_16 r) (fun y3 b3_1 b3_2 y29 b3_4 b1000000_0_35 kb1000000_1_36 r => mosL12Query_L3 y3 b3_1 b3_2 y29 b3_4 b1000000_0_35 kb1000000_1_36 r) (fun p0 r => ACalls Tryz.prog 46 [(.ptr 1000000 0)] [(1000000, bGL12In p0)] fun x b => x = (fun (y : GSortKey × GL12In) => (vGSortKey y.1)) r ∧ bxHas ((fun (y : GSortKey × GL12In) => [(1000000, bGL12In y.2)]) r) b) (fun p0 r => ACalls Tryz.prog 45 [(.ptr 1000000 0)] [(1000000, bGL12In p0)] fun x b => x = (fun (y : (List GExpr) × GL12In) => (.osl 2000000 37 10 (y.1.map cGExpr))) r ∧ bxHas ((fun (y : (List GExpr) × GL12In) => [(1000000, bGL12In y.2)]) r) b) (fun y3 b3_1 b3_2 y22 b5_2 b1000000_0_26 kb1000000_1_27 r => mosL12Query_J2 y3 b3_1 b3_2 y22 b5_2 b1000000_0_26 kb1000000_1_27 r) (fun p0 r => ACalls Tryz.prog 43 [(.ptr 1000000 0)] [(1000000, bGL12In p0)] fun x b => x = (fun (y : GItem × GL12In) => (vGItem y.1)) r ∧ bxHas ((fun (y : GItem × GL12In) => [(1000000, bGL12In y.2)]) r) b) ?_ ?_ ?_ ?_ ?_ ?_ ?_ ?_ ?_ ?_ ?_ ?_ ?_ ?_
 · intro F_sL12Expr F_sL12Query OK_sL12Expr OK_sL12Query p0 r h
   refine ao trsL12Prim (si (oi (sx 1 (ni (xi (si (oi (bldv_step (c := [(vI 1), (vI 0), (vB false), (vI 0), (vI 0), (vS []), (vS []), (vS []), (.nil 10), (.nil 6)]) (by kernel_rfl) (by kernel_rfl) rfl (sx 2 (ni (xi (si (bi (si (oi (sx 1 (cg ⟨[(1000000, 1000000)], [], [], [], [], [], [], [], []⟩ h (OK_sL12Kind _ _) fun y1 h => (sx 1 (ni (xi ?_))))))))))))))))))))
   refine cd h (fun h => ?_) fun h => ?_
   refine si (oi (sx 3 (ni (xi (si (oi (sx 1 (cg ⟨[(1000000, 1000000)], [], [], [], [], [], [], [], []⟩ h (OK_sL12Text _ _) fun y2 h => (cs h (OK_sNumber _) fun y3 h => (sx 6 (ni (xi (si (oi (sx 2 (ni (xi ?_)))))))))))))))))
   refine ret_wk (s' := ⟨[(2, (.ptr 2 0))], [(2, bGExpr (GExpr.mk 1 0 false (GValue.mk 1 y3.1 []) [] [] ([] : List GExpr) ([] : List GQuery))), (1000000, bGL12In y2.2)]⟩) (wr [] (es er_nil) (br_cons (c0 := [(vI 1), (vI 0), (vB false), (vI 1), (vI y3.1), (vS []), (vS []), (vS []), (.nil 10), (.nil 6)]) (by kernel_rfl) (vrs_cons (vr_same (by kernel_rfl) (by kernel_rfl)) (vrs_cons (vr_same (by kernel_rfl) (by kernel_rfl)) (vrs_cons (vr_same (by kernel_rfl) (by kernel_rfl)) (vrs_cons (vr_same (by kernel_rfl) (by kernel_rfl)) (vrs_cons (vr_same (by kernel_rfl) (by kernel_rfl)) (vrs_cons (vr_same (by kernel_rfl) (by kernel_rfl)) (vrs_cons (vr_same (by kernel_rfl) (by kernel_rfl)) (vrs_cons (vr_same (by kernel_rfl) (by kernel_rfl)) (vrs_cons (vr_weak (by kernel_rfl) (by kernel_rfl)) (vrs_cons (vr_weak (by kernel_rfl) (by kernel_rfl)) (vrs_nil))))))))))) (br_cons (c0 := [(.d (.sl 3 (y2.2.t.map cGToken))), (vI y2.2.at_), (vB y2.2.bad)]) (by kernel_rfl) (vrs_cons (vr_same (by kernel_rfl) (by kernel_rfl)) (vrs_cons (vr_same (by kernel_rfl) (by kernel_rfl)) (vrs_cons (vr_same (by kernel_rfl) (by kernel_rfl)) (vrs_nil)))) br_nil))) ?_
   refine br (tr ?_)
   injection h with h; subst h
   exact rb
   refine si (oi (sx 1 (cg ⟨[(1000000, 1000000)], [], [], [], [], [], [], [], []⟩ h (OK_sL12Kind _ _) fun y4 h => (sx 1 (ni (xi ?_))))))
   refine cd h (fun h => ?_) fun h => ?_
   refine si (oi (sx 1 (cg ⟨[(1000000, 1000000)], [], [], [], [], [], [], [], []⟩ h (OK_sL12Text _ _) fun y5 h => (cs h (OK_sTextValue _) fun y6 h => (sx 2 (ni (xi (si (oi (sx 2 (ni (xi ?_))))))))))))
   refine ret_wk (s' := ⟨[(2, (.ptr 2 0))], [(2, bGExpr (GExpr.mk 1 0 false y6 [] [] ([] : List GExpr) ([] : List GQuery))), (1000000, bGL12In y5.2)]⟩) (wr [] (es er_nil) (br_cons (c0 := [(vI 1), (vI 0), (vB false), (vI y6.kind), (vI y6.num), (vS y6.text), (vS []), (vS []), (.nil 10), (.nil 6)]) (by kernel_rfl) (vrs_cons (vr_same (by kernel_rfl) (by kernel_rfl)) (vrs_cons (vr_same (by kernel_rfl) (by kernel_rfl)) (vrs_cons (vr_same (by kernel_rfl) (by kernel_rfl)) (vrs_cons (vr_same (by kernel_rfl) (by kernel_rfl)) (vrs_cons (vr_same (by kernel_rfl) (by kernel_rfl)) (vrs_cons (vr_same (by kernel_rfl) (by kernel_rfl)) (vrs_cons (vr_same (by kernel_rfl) (by kernel_rfl)) (vrs_cons (vr_same (by kernel_rfl) (by kernel_rfl)) (vrs_cons (vr_weak (by kernel_rfl) (by kernel_rfl)) (vrs_cons (vr_weak (by kernel_rfl) (by kernel_rfl)) (vrs_nil))))))))))) (br_cons (c0 := [(.d (.sl 3 (y5.2.t.map cGToken))), (vI y5.2.at_), (vB y5.2.bad)]) (by kernel_rfl) (vrs_cons (vr_same (by kernel_rfl) (by kernel_rfl)) (vrs_cons (vr_same (by kernel_rfl) (by kernel_rfl)) (vrs_cons (vr_same (by kernel_rfl) (by kernel_rfl)) (vrs_nil)))) br_nil))) ?_
   refine br (tr ?_)
   injection h with h; subst h
   exact rb
   refine si (oi (sx 1 (cg ⟨[(1000000, 1000000)], [], [], [], [], [], [], [], []⟩ h (OK_sL12Maybe _ _) fun y7 h => (sx 1 (ni (xi ?_))))))
   refine cd h (fun h => ?_) fun h => ?_
   refine si (oi (sx 2 (ni (xi ?_))))
   refine ret_wk (s' := ⟨[(2, (.ptr 2 0))], [(2, bGExpr (GExpr.mk 1 0 false (GValue.mk 0 0 []) [] [] ([] : List GExpr) ([] : List GQuery))), (1000000, bGL12In y7.2)]⟩) (wr [] (es er_nil) (br_cons (c0 := [(vI 1), (vI 0), (vB false), (vI 0), (vI 0), (vS []), (vS []), (vS []), (.nil 10), (.nil 6)]) (by kernel_rfl) (vrs_cons (vr_same (by kernel_rfl) (by kernel_rfl)) (vrs_cons (vr_same (by kernel_rfl) (by kernel_rfl)) (vrs_cons (vr_same (by kernel_rfl) (by kernel_rfl)) (vrs_cons (vr_same (by kernel_rfl) (by kernel_rfl)) (vrs_cons (vr_same (by kernel_rfl) (by kernel_rfl)) (vrs_cons (vr_same (by kernel_rfl) (by kernel_rfl)) (vrs_cons (vr_same (by kernel_rfl) (by kernel_rfl)) (vrs_cons (vr_same (by kernel_rfl) (by kernel_rfl)) (vrs_cons (vr_weak (by kernel_rfl) (by kernel_rfl)) (vrs_cons (vr_weak (by kernel_rfl) (by kernel_rfl)) (vrs_nil))))))))))) (br_cons (c0 := [(.d (.sl 3 (y7.2.t.map cGToken))), (vI y7.2.at_), (vB y7.2.bad)]) (by kernel_rfl) (vrs_cons (vr_same (by kernel_rfl) (by kernel_rfl)) (vrs_cons (vr_same (by kernel_rfl) (by kernel_rfl)) (vrs_cons (vr_same (by kernel_rfl) (by kernel_rfl)) (vrs_nil)))) br_nil))) ?_
   refine br (tr ?_)
   injection h with h; subst h
   exact rb
   refine si (oi (sx 1 (cg ⟨[(1000000, 1000000)], [], [], [], [], [], [], [], []⟩ h (OK_sL12Maybe _ _) fun y8 h => (sx 1 (ni (xi ?_))))))
   refine cd h (fun h => ?_) fun h => ?_
   refine si (oi (cs h (OK_sBoolValue _) fun y9 h => (sx 2 (ni (xi (si (oi (sx 2 (ni (xi ?_))))))))))
   refine ret_wk (s' := ⟨[(2, (.ptr 2 0))], [(2, bGExpr (GExpr.mk 1 0 false y9 [] [] ([] : List GExpr) ([] : List GQuery))), (1000000, bGL12In y8.2)]⟩) (wr [] (es er_nil) (br_cons (c0 := [(vI 1), (vI 0), (vB false), (vI y9.kind), (vI y9.num), (vS y9.text), (vS []), (vS []), (.nil 10), (.nil 6)]) (by kernel_rfl) (vrs_cons (vr_same (by kernel_rfl) (by kernel_rfl)) (vrs_cons (vr_same (by kernel_rfl) (by kernel_rfl)) (vrs_cons (vr_same (by kernel_rfl) (by kernel_rfl)) (vrs_cons (vr_same (by kernel_rfl) (by kernel_rfl)) (vrs_cons (vr_same (by kernel_rfl) (by kernel_rfl)) (vrs_cons (vr_same (by kernel_rfl) (by kernel_rfl)) (vrs_cons (vr_same (by kernel_rfl) (by kernel_rfl)) (vrs_cons (vr_same (by kernel_rfl) (by kernel_rfl)) (vrs_cons (vr_weak (by kernel_rfl) (by kernel_rfl)) (vrs_cons (vr_weak (by kernel_rfl) (by kernel_rfl)) (vrs_nil))))))))))) (br_cons (c0 := [(.d (.sl 3 (y8.2.t.map cGToken))), (vI y8.2.at_), (vB y8.2.bad)]) (by kernel_rfl) (vrs_cons (vr_same (by kernel_rfl) (by kernel_rfl)) (vrs_cons (vr_same (by kernel_rfl) (by kernel_rfl)) (vrs_cons (vr_same (by kernel_rfl) (by kernel_rfl)) (vrs_nil)))) br_nil))) ?_
   refine br (tr ?_)
   injection h with h; subst h
   exact rb
   refine si (oi (sx 1 (cg ⟨[(1000000, 1000000)], [], [], [], [], [], [], [], []⟩ h (OK_sL12Maybe _ _) fun y10 h => (sx 1 (ni (xi ?_))))))
   refine cd h (fun h => ?_) fun h => ?_
   refine si (oi (cs h (OK_sBoolValue _) fun y11 h => (sx 2 (ni (xi (si (oi (sx 2 (ni (xi ?_))))))))))
   refine ret_wk (s' := ⟨[(2, (.ptr 2 0))], [(2, bGExpr (GExpr.mk 1 0 false y11 [] [] ([] : List GExpr) ([] : List GQuery))), (1000000, bGL12In y10.2)]⟩) (wr [] (es er_nil) (br_cons (c0 := [(vI 1), (vI 0), (vB false), (vI y11.kind), (vI y11.num), (vS y11.text), (vS []), (vS []), (.nil 10), (.nil 6)]) (by kernel_rfl) (vrs_cons (vr_same (by kernel_rfl) (by kernel_rfl)) (vrs_cons (vr_same (by kernel_rfl) (by kernel_rfl)) (vrs_cons (vr_same (by kernel_rfl) (by kernel_rfl)) (vrs_cons (vr_same (by kernel_rfl) (by kernel_rfl)) (vrs_cons (vr_same (by kernel_rfl) (by kernel_rfl)) (vrs_cons (vr_same (by kernel_rfl) (by kernel_rfl)) (vrs_cons (vr_same (by kernel_rfl) (by kernel_rfl)) (vrs_cons (vr_same (by kernel_rfl) (by kernel_rfl)) (vrs_cons (vr_weak (by kernel_rfl) (by kernel_rfl)) (vrs_cons (vr_weak (by kernel_rfl) (by kernel_rfl)) (vrs_nil))))))))))) (br_cons (c0 := [(.d (.sl 3 (y10.2.t.map cGToken))), (vI y10.2.at_), (vB y10.2.bad)]) (by kernel_rfl) (vrs_cons (vr_same (by kernel_rfl) (by kernel_rfl)) (vrs_cons (vr_same (by kernel_rfl) (by kernel_rfl)) (vrs_cons (vr_same (by kernel_rfl) (by kernel_rfl)) (vrs_nil)))) br_nil))) ?_
   refine br (tr ?_)
   injection h with h; subst h
   exact rb
   refine si (oi (sx 1 (cg ⟨[(1000000, 1000000)], [], [], [], [], [], [], [], []⟩ h (OK_sL12Kind _ _) fun y12 h => (sx 1 (ni (xi ?_))))))
   refine cd h (fun h => ?_) fun h => ?_
   refine si (oi (sx 1 (cg ⟨[(1000000, 1000000)], [], [], [], [], [], [], [], []⟩ h (OK_sL12Text _ _) fun y13 h => (bldv_step (c := [(vI 2), (vI 0), (vB false), (vI 0), (vI 0), (vS []), (vS []), (vS y13.1), (.nil 10), (.nil 6)]) (by kernel_rfl) (by kernel_rfl) rfl (sx 2 (ni (xi (si (si (oi (sx 1 (cg ⟨[(1000000, 1000000)], [], [], [], [], [], [], [], []⟩ h (OK_sL12Sign _ _) fun y14 h => (ni (xi ?_))))))))))))))
   refine cd h (fun h => ?_) fun h => ?_
   exact si (oi (sx 1 (cg ⟨[(1000000, 1000000)], [], [], [], [], [], [], [], []⟩ h (OK_sL12Step _ _) fun y15 h => (ni (xi (si (oi (sx 4 (ni (xi (oi (sx 1 (cg ⟨[(1000000, 1000000)], [], [], [], [], [], [], [], []⟩ h (OK_sL12Text _ _) fun y16 h => (sx 2 (ni (nxs (OK_sL12Prim_J0 _ _ _ _ _ _ h) (wr [] (es (es er_nil)) (bs_ (bs_ (bs_ br_nil))))))))))))))))))))
   exact ki (nxs (OK_sL12Prim_J0 _ _ _ _ _ _ h) (wr [] (es (es er_nil)) (bs_ (bs_ (bs_ br_nil)))))
   refine si (oi (sx 1 (cg ⟨[(1000000, 1000000)], [], [], [], [], [], [], [], []⟩ h (OK_sL12Maybe _ _) fun y17 h => (sx 1 (ni (xi ?_))))))
   refine cd h (fun h => ?_) fun h => ?_
   refine si (oi (sx 2 (cg ⟨[(1000000, 1000000)], [], [], [], [], [], [], [], []⟩ h (OK_sL12Sign _ _) fun y18 h => (cg ⟨[(1000000, 1000000)], [], [], [], [], [], [], [], []⟩ h (OK_sL12Step _ _) fun y19 h => (ni (xi (si (oi (sx 1 (cg ⟨[(1000000, 1000000)], [], [], [], [], [], [], [], []⟩ h (OK_sL12Query _) fun y20 h => (sx 2 (ni (xi (si (oi (sx 2 ?_))))))))))))))))
   refine cg ⟨[(1000000, 1000000)], [], [], [], [], [], [], [], []⟩ h (OK_sL12Sign _ _) fun y21 h => (cg ⟨[(1000000, 1000000)], [], [], [], [], [], [], [], []⟩ h (OK_sL12Step _ _) fun y22 h => (ni (xi (si (oi (sx 1 (bsl_step (l := ([y20.1] : List GQuery)) (f := cGQuery) (g := oGQuery) (by kernel_rfl) cGQuery_eq (by kernel_rfl) ?_)))))))
   refine bldv_step (c := [(vI 9), (vI 0), (vB false), (vI 0), (vI 0), (vS []), (vS []), (vS []), (.nil 10), (.osl 77 70 6 (([y20.1] : List GQuery).map cGQuery))]) (by kernel_rfl) (by kernel_rfl) rfl (sx 1 (ni (xi ?_)))
   refine ret_wk (s' := ⟨[(2, (.ptr 2 0))], [(2, bGExpr (GExpr.mk 9 0 false (GValue.mk 0 0 []) [] [] ([] : List GExpr) ([y20.1] : List GQuery))), (1000000, bGL12In y22)]⟩) (wr [] (es er_nil) (br_cons (c0 := [(vI 9), (vI 0), (vB false), (vI 0), (vI 0), (vS []), (vS []), (vS []), (.nil 10), (.osl 77 70 6 (([y20.1] : List GQuery).map cGQuery))]) (by kernel_rfl) (vrs_cons (vr_same (by kernel_rfl) (by kernel_rfl)) (vrs_cons (vr_same (by kernel_rfl) (by kernel_rfl)) (vrs_cons (vr_same (by kernel_rfl) (by kernel_rfl)) (vrs_cons (vr_same (by kernel_rfl) (by kernel_rfl)) (vrs_cons (vr_same (by kernel_rfl) (by kernel_rfl)) (vrs_cons (vr_same (by kernel_rfl) (by kernel_rfl)) (vrs_cons (vr_same (by kernel_rfl) (by kernel_rfl)) (vrs_cons (vr_same (by kernel_rfl) (by kernel_rfl)) (vrs_cons (vr_weak (by kernel_rfl) (by kernel_rfl)) (vrs_cons (vr_weak (by kernel_rfl) (by kernel_rfl)) (vrs_nil))))))))))) (br_cons (c0 := [(.d (.sl 3 (y22.t.map cGToken))), (vI y22.at_), (vB y22.bad)]) (by kernel_rfl) (vrs_cons (vr_same (by kernel_rfl) (by kernel_rfl)) (vrs_cons (vr_same (by kernel_rfl) (by kernel_rfl)) (vrs_cons (vr_same (by kernel_rfl) (by kernel_rfl)) (vrs_nil)))) br_nil))) ?_
   refine br (tr ?_)
   injection h with h; subst h
   exact rb
   refine ki (bn (xi (si (oi (sx 2 (cg ⟨[(1000000, 1000000)], [], [], [], [], [], [], [], []⟩ h (OK_sL12Sign _ _) fun y23 h => (cg ⟨[(1000000, 1000000)], [], [], [], [], [], [], [], []⟩ h (OK_sL12Step _ _) fun y24 h => (ni (xi (si (si (oi (sx 4 (ni (xi ?_)))))))))))))))
   refine cd h (fun h => ?_) fun h => ?_
   refine si (oi (bldv_step (c := [(vI 0), (vI 0), (vB false), (vI 0), (vI 0), (vS []), (vS []), (vS []), (.nil 10), (.nil 6)]) (by kernel_rfl) (by kernel_rfl) rfl (sx 1 (ni (xi ?_)))))
   refine ret_wk (s' := ⟨[(2, (.ptr 2 0))], [(2, bGExpr (GExpr.mk 0 0 false (GValue.mk 0 0 []) [] [] ([] : List GExpr) ([] : List GQuery))), (1000000, bGL12In y24)]⟩) (wr [] (es er_nil) (br_cons (c0 := [(vI 0), (vI 0), (vB false), (vI 0), (vI 0), (vS []), (vS []), (vS []), (.nil 10), (.nil 6)]) (by kernel_rfl) (vrs_cons (vr_same (by kernel_rfl) (by kernel_rfl)) (vrs_cons (vr_same (by kernel_rfl) (by kernel_rfl)) (vrs_cons (vr_same (by kernel_rfl) (by kernel_rfl)) (vrs_cons (vr_same (by kernel_rfl) (by kernel_rfl)) (vrs_cons (vr_same (by kernel_rfl) (by kernel_rfl)) (vrs_cons (vr_same (by kernel_rfl) (by kernel_rfl)) (vrs_cons (vr_same (by kernel_rfl) (by kernel_rfl)) (vrs_cons (vr_same (by kernel_rfl) (by kernel_rfl)) (vrs_cons (vr_weak (by kernel_rfl) (by kernel_rfl)) (vrs_cons (vr_weak (by kernel_rfl) (by kernel_rfl)) (vrs_nil))))))))))) (br_cons (c0 := [(.d (.sl 3 (y24.t.map cGToken))), (vI y24.at_), (vB y24.bad)]) (by kernel_rfl) (vrs_cons (vr_same (by kernel_rfl) (by kernel_rfl)) (vrs_cons (vr_same (by kernel_rfl) (by kernel_rfl)) (vrs_cons (vr_same (by kernel_rfl) (by kernel_rfl)) (vrs_nil)))) br_nil))) ?_
   refine tr ?_
   injection h with h; subst h
   exact rb
   refine ki (xi (si (oi (sx 1 (cg ⟨[(1000000, 1000000)], [], [], [], [], [], [], [], []⟩ h (OK_sL12Expr _ _) fun y25 h => (sx 2 (ni (xi (si (oi (sx 2 (cg ⟨[(1000000, 1000000)], [], [], [], [], [], [], [], []⟩ h (OK_sL12Sign _ _) fun y26 h => (cg ⟨[(1000000, 1000000)], [], [], [], [], [], [], [], []⟩ h (OK_sL12Step _ _) fun y27 h => (ni (xi (si (oi (sx 2 (ni (xi (ri ?_)))))))))))))))))))))
   injection h with h; subst h
   exact rb
 · intro F_sL12Prim F_sL12Expr F_sL12Expr_L0 F_sL12Cmp OK_sL12Prim OK_sL12Expr OK_sL12Expr_L0 OK_sL12Cmp p0 p1 r h
   refine ao trsL12Expr (si (oi (sx 1 (ni (xi (si (si (oi (sx 1 (ni (xi (bi (si (oi (sx 2 (ni (xi ?_)))))))))))))))))
   refine cd h (fun h => ?_) fun h => ?_
   refine si (si (oi (sx 1 (cg ⟨[(1000000, 1000000)], [], [], [], [], [], [], [], []⟩ h (OK_sL12Maybe _ _) fun y1 h => (ni (xi ?_))))))
   refine cd h (fun h => ?_) fun h => ?_
   refine si (oi (sx 1 (cg ⟨[(1000000, 1000000)], [], [], [], [], [], [], [], []⟩ h (OK_sL12Expr _ _) fun y2 h => (bsl_step (l := ([y2.1] : List GExpr)) (f := cGExpr) (g := oGExpr) (by kernel_rfl) cGExpr_eq (by kernel_rfl) (bldv_step (c := [(vI 3), (vI 15), (vB false), (vI 0), (vI 0), (vS []), (vS []), (vS []), (.osl 14 37 10 (([y2.1] : List GExpr).map cGExpr)), (.nil 6)]) (by kernel_rfl) (by kernel_rfl) rfl ?_)))))
   refine sx 1 (ni (xi ?_))
   refine ret_wk (s' := ⟨[(4, (.ptr 4 0))], [(4, bGExpr (GExpr.mk 3 15 false (GValue.mk 0 0 []) [] [] ([y2.1] : List GExpr) ([] : List GQuery))), (1000000, bGL12In y2.2)]⟩) (wr [] (es er_nil) (br_cons (c0 := [(vI 3), (vI 15), (vB false), (vI 0), (vI 0), (vS []), (vS []), (vS []), (.osl 14 37 10 (([y2.1] : List GExpr).map cGExpr)), (.nil 6)]) (by kernel_rfl) (vrs_cons (vr_same (by kernel_rfl) (by kernel_rfl)) (vrs_cons (vr_same (by kernel_rfl) (by kernel_rfl)) (vrs_cons (vr_same (by kernel_rfl) (by kernel_rfl)) (vrs_cons (vr_same (by kernel_rfl) (by kernel_rfl)) (vrs_cons (vr_same (by kernel_rfl) (by kernel_rfl)) (vrs_cons (vr_same (by kernel_rfl) (by kernel_rfl)) (vrs_cons (vr_same (by kernel_rfl) (by kernel_rfl)) (vrs_cons (vr_same (by kernel_rfl) (by kernel_rfl)) (vrs_cons (vr_weak (by kernel_rfl) (by kernel_rfl)) (vrs_cons (vr_weak (by kernel_rfl) (by kernel_rfl)) (vrs_nil))))))))))) (br_cons (c0 := [(.d (.sl 3 (y2.2.t.map cGToken))), (vI y2.2.at_), (vB y2.2.bad)]) (by kernel_rfl) (vrs_cons (vr_same (by kernel_rfl) (by kernel_rfl)) (vrs_cons (vr_same (by kernel_rfl) (by kernel_rfl)) (vrs_cons (vr_same (by kernel_rfl) (by kernel_rfl)) (vrs_nil)))) br_nil))) ?_
   refine tr (br (tr ?_))
   injection h with h; subst h
   exact rb
   refine ki (xi (si (oi (sx 1 (cg ⟨[(1000000, 1000000)], [], [], [], [], [], [], [], []⟩ h (OK_sL12Expr _ _) fun y3 h => (sx 1 (ni (xi (ri (br (tr ?_)))))))))))
   injection h with h; subst h
   exact rb
   refine si (oi (sx 2 (ni (xi ?_))))
   refine cd h (fun h => ?_) fun h => ?_
   refine si (oi (sx 1 (cg ⟨[(1000000, 1000000)], [], [], [], [], [], [], [], []⟩ h (OK_sL12Cmp _) fun y4 h => (sx 1 (ni (xi (ri (br (tr ?_)))))))))
   injection h with h; subst h
   exact rb
   refine si (oi (sx 2 (ni (xi ?_))))
   refine cd h (fun h => ?_) fun h => ?_
   refine si (si (oi (sx 1 (cg ⟨[(1000000, 1000000)], [], [], [], [], [], [], [], []⟩ h (OK_sL12Sign _ _) fun y5 h => (ni (xi ?_))))))
   refine cd h (fun h => ?_) fun h => ?_
   refine si (oi (sx 1 (cg ⟨[(1000000, 1000000)], [], [], [], [], [], [], [], []⟩ h (OK_sL12Step _ _) fun y6 h => (ni (xi (si (oi (sx 1 (cg ⟨[(1000000, 1000000)], [], [], [], [], [], [], [], []⟩ h (OK_sL12Expr _ _) fun y7 h => (bsl_step (l := ([y7.1] : List GExpr)) (f := cGExpr) (g := oGExpr) (by kernel_rfl) cGExpr_eq (by kernel_rfl) ?_))))))))))
   refine bldv_step (c := [(vI 3), (vI 16), (vB false), (vI 0), (vI 0), (vS []), (vS []), (vS []), (.osl 30 37 10 (([y7.1] : List GExpr).map cGExpr)), (.nil 6)]) (by kernel_rfl) (by kernel_rfl) rfl (sx 1 (ni (xi ?_)))
   refine ret_wk (s' := ⟨[(4, (.ptr 4 0))], [(4, bGExpr (GExpr.mk 3 16 false (GValue.mk 0 0 []) [] [] ([y7.1] : List GExpr) ([] : List GQuery))), (1000000, bGL12In y7.2)]⟩) (wr [] (es er_nil) (br_cons (c0 := [(vI 3), (vI 16), (vB false), (vI 0), (vI 0), (vS []), (vS []), (vS []), (.osl 30 37 10 (([y7.1] : List GExpr).map cGExpr)), (.nil 6)]) (by kernel_rfl) (vrs_cons (vr_same (by kernel_rfl) (by kernel_rfl)) (vrs_cons (vr_same (by kernel_rfl) (by kernel_rfl)) (vrs_cons (vr_same (by kernel_rfl) (by kernel_rfl)) (vrs_cons (vr_same (by kernel_rfl) (by kernel_rfl)) (vrs_cons (vr_same (by kernel_rfl) (by kernel_rfl)) (vrs_cons (vr_same (by kernel_rfl) (by kernel_rfl)) (vrs_cons (vr_same (by kernel_rfl) (by kernel_rfl)) (vrs_cons (vr_same (by kernel_rfl) (by kernel_rfl)) (vrs_cons (vr_weak (by kernel_rfl) (by kernel_rfl)) (vrs_cons (vr_weak (by kernel_rfl) (by kernel_rfl)) (vrs_nil))))))))))) (br_cons (c0 := [(.d (.sl 3 (y7.2.t.map cGToken))), (vI y7.2.at_), (vB y7.2.bad)]) (by kernel_rfl) (vrs_cons (vr_same (by kernel_rfl) (by kernel_rfl)) (vrs_cons (vr_same (by kernel_rfl) (by kernel_rfl)) (vrs_cons (vr_same (by kernel_rfl) (by kernel_rfl)) (vrs_nil)))) br_nil))) ?_
   refine tr (br (tr ?_))
   injection h with h; subst h
   exact rb
   refine ki (xi (si (oi (sx 1 (cg ⟨[(1000000, 1000000)], [], [], [], [], [], [], [], []⟩ h (OK_sL12Prim _) fun y8 h => (sx 1 (ni (xi (ri (br (tr ?_)))))))))))
   injection h with h; subst h
   exact rb
   refine ki (bn (xi (si (oi (sx 3 (cg ⟨[(1000000, 1000000)], [], [], [], [], [], [], [], []⟩ h (OK_sL12Expr _ _) fun y9 h => (sx 2 (ni (xi (si (bi ?_)))))))))))
   exact lgs (OK_sL12Expr_L0 _ _ _ _ _ _ (_, (_, (_, (_, (_, (_, (_, _))))))) _ h) (wr [] (es (es (es (es er_nil)))) (bs_ (bs_ (bs_ br_nil))))
 · intro F_sL12Expr F_sL12Expr_L0 OK_sL12Expr OK_sL12Expr_L0 p1 b5_0 b5_1 b5_2 b5_3 b5_4 kb5_5 r h
   delta mosL12Expr_L0 acsL12Expr_L0
   refine loop_unroll (si (si (oi (sx 5 (ni (xi ?_))))))
   refine cd h (fun h => ?_) fun h => ?_
   refine ki (xi (bi (si (oi (sx 2 (cg ⟨[(1000000, 1000000)], [], [], [], [], [], [], [], []⟩ h (OK_sL12Op _ _) fun y10 h => (sx 1 (ni (xi (si (si (oi (sx 2 (ni (xi ?_)))))))))))))))
   refine cd h (fun h => ?_) fun h => ?_
   exact ei (te (blockK_else (by decide) (te (bh (nxs (OK_sL12Expr_J1 _ _ _ _ _ _ _ _ _ _ _ _ _ _ h) (wr [] (es (es er_nil)) (bs_ (bs_ (bs_ br_nil)))))))))
   refine ki (xi (si (oi (sx 1 (cg ⟨[(1000000, 1000000)], [], [], [], [], [], [], [], []⟩ h (OK_sL12Step _ _) fun y11 h => (ni (xi (dops_in (dsx 5 (dcg ⟨[(1000000, 1000000)], [], [], [], [], [], [], [], []⟩ [] [] h (OK_sL12Expr _ _) fun y12 h => ?_))))))))))
   refine dbsl_step (l := ([(GExpr.mk b5_0 b5_1 b5_2 (GValue.mk b5_3 b5_4 kb5_5.1) kb5_5.2.1 kb5_5.2.2.1 kb5_5.2.2.2.1 kb5_5.2.2.2.2.1), y12.1] : List GExpr)) (f := cGExpr) (g := oGExpr) (by kernel_rfl) cGExpr_eq (dsx 2 (dnil_in (by kernel_rfl) (by kernel_rfl) (bn ?_)))
   exact lbs (OK_sL12Expr_L0 _ _ _ _ _ _ (_, (_, (_, (_, (_, (_, (_, _))))))) _ h) (wr [] (es (es (es (es er_nil)))) (bs_ (bs_ (bs_ br_nil))))
   exact ei (te (te (bh (nxs (OK_sL12Expr_J1 _ _ _ _ _ _ _ _ _ _ _ _ _ _ h) (wr [] (es (es er_nil)) (bs_ (bs_ (bs_ br_nil))))))))
 · intro F_sL12Expr F_sL12Within OK_sL12Expr OK_sL12Within p0 r h
   refine ao trsL12Cmp (si (oi (sx 1 (ni (xi (si (oi (sx 1 (cg ⟨[(1000000, 1000000)], [], [], [], [], [], [], [], []⟩ h (OK_sL12Expr _ _) fun y1 h => (sx 2 (ni (xi (si (oi (sx 1 (cg ⟨[(1000000, 1000000)], [], [], [], [], [], [], [], []⟩ h (OK_sL12Op _ _) fun y2 h => (sx 1 (ni (xi (si (si (oi (sx 2 (ni (xi ?_)))))))))))))))))))))))))
   refine cd h (fun h => ?_) fun h => ?_
   refine si (oi (sx 1 (cg ⟨[(1000000, 1000000)], [], [], [], [], [], [], [], []⟩ h (OK_sL12Step _ _) fun y3 h => (ni (xi (si (dops_in (dsx 3 (dcg ⟨[(1000000, 1000000)], [], [], [], [], [], [], [], []⟩ [] [] h (OK_sL12Expr _ _) fun y4 h => (dbsl_step (l := ([y1.1, y4.1] : List GExpr)) (f := cGExpr) (g := oGExpr) (by kernel_rfl) cGExpr_eq (dsx 2 (dnil_in (by kernel_rfl) (by kernel_rfl) (xi (ri (tr ?_)))))))))))))))
   injection h with h; subst h
   exact rb
   refine ki (xi (si (si (oi (sx 1 (cg ⟨[(1000000, 1000000)], [], [], [], [], [], [], [], []⟩ h (OK_sL12Maybe _ _) fun y5 h => (ni (xi ?_))))))))
   refine cd h (fun h => ?_) fun h => ?_
   refine si (oi (sx 1 (cg ⟨[(1000000, 1000000)], [], [], [], [], [], [], [], []⟩ h (OK_sL12Maybe _ _) fun y6 h => (sx 1 (ni (xi (si (oi (sx 2 (cg ⟨[(1000000, 1000000)], [], [], [], [], [], [], [], []⟩ h (OK_sL12Key _ _) fun y7 h => (cg ⟨[(1000000, 1000000)], [], [], [], [], [], [], [], []⟩ h (OK_sL12Step _ _) fun y8 h => (ni (xi (si (oi (sx 2 ?_))))))))))))))))
   refine bsl_step (l := ([y1.1] : List GExpr)) (f := cGExpr) (g := oGExpr) (by kernel_rfl) cGExpr_eq (by kernel_rfl) (bldv_step (c := [(vI 5), (vI 0), (vB y6.1), (vI 0), (vI 0), (vS []), (vS []), (vS []), (.osl 32 37 10 (([y1.1] : List GExpr).map cGExpr)), (.nil 6)]) (by kernel_rfl) (by kernel_rfl) rfl (sx 1 (ni (xi ?_))))
   refine ret_wk (s' := ⟨[(2, (.ptr 2 0))], [(2, bGExpr (GExpr.mk 5 0 y6.1 (GValue.mk 0 0 []) [] [] ([y1.1] : List GExpr) ([] : List GQuery))), (1000000, bGL12In y8)]⟩) (wr [] (es er_nil) (br_cons (c0 := [(vI 5), (vI 0), (vB y6.1), (vI 0), (vI 0), (vS []), (vS []), (vS []), (.osl 32 37 10 (([y1.1] : List GExpr).map cGExpr)), (.nil 6)]) (by kernel_rfl) (vrs_cons (vr_same (by kernel_rfl) (by kernel_rfl)) (vrs_cons (vr_same (by kernel_rfl) (by kernel_rfl)) (vrs_cons (vr_same (by kernel_rfl) (by kernel_rfl)) (vrs_cons (vr_same (by kernel_rfl) (by kernel_rfl)) (vrs_cons (vr_same (by kernel_rfl) (by kernel_rfl)) (vrs_cons (vr_same (by kernel_rfl) (by kernel_rfl)) (vrs_cons (vr_same (by kernel_rfl) (by kernel_rfl)) (vrs_cons (vr_same (by kernel_rfl) (by kernel_rfl)) (vrs_cons (vr_weak (by kernel_rfl) (by kernel_rfl)) (vrs_cons (vr_weak (by kernel_rfl) (by kernel_rfl)) (vrs_nil))))))))))) (br_cons (c0 := [(.d (.sl 3 (y8.t.map cGToken))), (vI y8.at_), (vB y8.bad)]) (by kernel_rfl) (vrs_cons (vr_same (by kernel_rfl) (by kernel_rfl)) (vrs_cons (vr_same (by kernel_rfl) (by kernel_rfl)) (vrs_cons (vr_same (by kernel_rfl) (by kernel_rfl)) (vrs_nil)))) br_nil))) ?_
   refine tr ?_
   injection h with h; subst h
   exact rb
   refine ki (xi (si (oi (sx 1 (cg ⟨[(1000000, 1000000)], [], [], [], [], [], [], [], []⟩ h (OK_sL12Maybe _ _) fun y9 h => (sx 1 (ni (xi (si (si (oi (sx 1 (cg ⟨[(1000000, 1000000)], [], [], [], [], [], [], [], []⟩ h (OK_sL12Maybe _ _) fun y10 h => (ni (xi ?_)))))))))))))))
   refine cd h (fun h => ?_) fun h => ?_
   refine si (oi (sx 1 (cg ⟨[(1000000, 1000000)], [], [], [], [], [], [], [], []⟩ h (OK_sL12Expr _ _) fun y11 h => (sx 2 (ni (xi (si (oi (sx 2 (cg ⟨[(1000000, 1000000)], [], [], [], [], [], [], [], []⟩ h (OK_sL12Key _ _) fun y12 h => (cg ⟨[(1000000, 1000000)], [], [], [], [], [], [], [], []⟩ h (OK_sL12Step _ _) fun y13 h => (ni (xi (si (dops_in (dsx 4 ?_))))))))))))))))
   refine dcg ⟨[(1000000, 1000000)], [], [], [], [], [], [], [], []⟩ [] [] h (OK_sL12Expr _ _) fun y14 h => (dbsl_step (l := ([y1.1, y11.1, y14.1] : List GExpr)) (f := cGExpr) (g := oGExpr) (by kernel_rfl) cGExpr_eq (dsx 2 (dnil_in (by kernel_rfl) (by kernel_rfl) (xi (ri (tr ?_))))))
   injection h with h; subst h
   exact rb
   refine ki (xi (si (si (oi (sx 1 (cg ⟨[(1000000, 1000000)], [], [], [], [], [], [], [], []⟩ h (OK_sL12Maybe _ _) fun y15 h => (ni (xi ?_))))))))
   refine cd h (fun h => ?_) fun h => ?_
   refine si (oi (sx 3 (cg ⟨[(1000000, 1000000)], [], [], [], [], [], [], [], []⟩ h (OK_sL12Within _ _ _) fun y16 h => (sx 1 (ni (xi (ri (tr ?_))))))))
   injection h with h; subst h
   exact rb
   refine ki (xi (si (si (oi (sx 1 (ni (xi ?_)))))))
   refine cd h (fun h => ?_) fun h => ?_
   exact oi (sx 4 (ni (nxs (OK_sL12Cmp_J0 _ _ _ _ h) (wr [] (es (es er_nil)) (bs_ (bs_ (bs_ br_nil)))))))
   exact ki (nxs (OK_sL12Cmp_J0 _ _ _ _ h) (wr [] (es (es er_nil)) (bs_ (bs_ (bs_ br_nil)))))
 · intro F_sL12Expr F_sL12Within_L0 F_sL12Query OK_sL12Expr OK_sL12Within_L0 OK_sL12Query p0 p1 p2 r h
   refine ao trsL12Within (si (oi (sx 2 (ni (xi (si (oi (sx 2 (cg ⟨[(1000000, 1000000)], [], [], [], [], [], [], [], []⟩ h (OK_sL12Sign _ _) fun y1 h => (cg ⟨[(1000000, 1000000)], [], [], [], [], [], [], [], []⟩ h (OK_sL12Step _ _) fun y2 h => (ni (xi (si (si (oi (sx 1 (cg ⟨[(1000000, 1000000)], [], [], [], [], [], [], [], []⟩ h (OK_sL12Key _ _) fun y3 h => (ni (xi ?_)))))))))))))))))))
   refine cd h (fun h => ?_) fun h => ?_
   refine si (oi (sx 1 (cg ⟨[(1000000, 1000000)], [], [], [], [], [], [], [], []⟩ h (OK_sL12Query _) fun y4 h => (sx 2 (ni (xi (si (oi (sx 2 (cg ⟨[(1000000, 1000000)], [], [], [], [], [], [], [], []⟩ h (OK_sL12Sign _ _) fun y5 h => (cg ⟨[(1000000, 1000000)], [], [], [], [], [], [], [], []⟩ h (OK_sL12Step _ _) fun y6 h => (ni (xi (si (oi (sx 2 ?_))))))))))))))))
   refine bsl_step (l := ([p1] : List GExpr)) (f := cGExpr) (g := oGExpr) (by kernel_rfl) cGExpr_eq (by kernel_rfl) (sx 1 (bsl_step (l := ([y4.1] : List GQuery)) (f := cGQuery) (g := oGQuery) (by kernel_rfl) cGQuery_eq (by kernel_rfl) ?_))
   refine bldv_step (c := [(vI 8), (vI 0), (vB p2), (vI 0), (vI 0), (vS []), (vS []), (vS []), (.osl 23 37 10 (([p1] : List GExpr).map cGExpr)), (.osl 25 70 6 (([y4.1] : List GQuery).map cGQuery))]) (by kernel_rfl) (by kernel_rfl) rfl (sx 1 (ni (xi ?_)))
   refine ret_wk (s' := ⟨[(6, (.ptr 6 0))], [(6, bGExpr (GExpr.mk 8 0 p2 (GValue.mk 0 0 []) [] [] ([p1] : List GExpr) ([y4.1] : List GQuery))), (1000000, bGL12In y6)]⟩) (wr [] (es er_nil) (br_cons (c0 := [(vI 8), (vI 0), (vB p2), (vI 0), (vI 0), (vS []), (vS []), (vS []), (.osl 23 37 10 (([p1] : List GExpr).map cGExpr)), (.osl 25 70 6 (([y4.1] : List GQuery).map cGQuery))]) (by kernel_rfl) (vrs_cons (vr_same (by kernel_rfl) (by kernel_rfl)) (vrs_cons (vr_same (by kernel_rfl) (by kernel_rfl)) (vrs_cons (vr_same (by kernel_rfl) (by kernel_rfl)) (vrs_cons (vr_same (by kernel_rfl) (by kernel_rfl)) (vrs_cons (vr_same (by kernel_rfl) (by kernel_rfl)) (vrs_cons (vr_same (by kernel_rfl) (by kernel_rfl)) (vrs_cons (vr_same (by kernel_rfl) (by kernel_rfl)) (vrs_cons (vr_same (by kernel_rfl) (by kernel_rfl)) (vrs_cons (vr_weak (by kernel_rfl) (by kernel_rfl)) (vrs_cons (vr_weak (by kernel_rfl) (by kernel_rfl)) (vrs_nil))))))))))) (br_cons (c0 := [(.d (.sl 3 (y6.t.map cGToken))), (vI y6.at_), (vB y6.bad)]) (by kernel_rfl) (vrs_cons (vr_same (by kernel_rfl) (by kernel_rfl)) (vrs_cons (vr_same (by kernel_rfl) (by kernel_rfl)) (vrs_cons (vr_same (by kernel_rfl) (by kernel_rfl)) (vrs_nil)))) br_nil))) ?_
   refine tr ?_
   injection h with h; subst h
   exact rb
   refine ki (xi (si (dops_in (dsx 2 (dcg ⟨[(1000000, 1000000)], [], [], [], [], [], [], [], []⟩ [] [] h (OK_sL12Expr _ _) fun y7 h => (dbsl_step (l := ([p1, y7.1] : List GExpr)) (f := cGExpr) (g := oGExpr) (by kernel_rfl) cGExpr_eq (dasg_step (t := 30) (e := 37) (sz := 10) (l := ([p1, y7.1] : List GExpr).map cGExpr) [30] [] (by kernel_rfl) (by kernel_rfl)  rfl (dnil_in (by kernel_rfl) (by kernel_rfl) (xi ?_)))))))))
   exact si (bi (lgs (OK_sL12Within_L0 _ _ _ _ _ _ h) (wr [(8, .old 8)] (es (es (es (eo 8 er_nil)))) (bs_ (bs_ br_nil)))))
 · intro F_sL12Expr F_sL12Within_L0 OK_sL12Expr OK_sL12Within_L0 p2 x8 b1000000_0 b1000000_1 b1000000_2 r h
   delta mosL12Within_L0 acsL12Within_L0
   refine loop_unroll (si (si (oi (sx 1 (cg ⟨[(1000000, 1000000)], [], [], [], [], [], [], [], []⟩ h (OK_sL12Sign _ _) fun y8 h => (ni (xi ?_)))))))
   refine cd h (fun h => ?_) fun h => ?_
   refine ki (xi (bi (si (oi (sx 1 (cg ⟨[(1000000, 1000000)], [], [], [], [], [], [], [], []⟩ h (OK_sL12Step _ _) fun y9 h => (ni (xi (oi (sx 2 (cg ⟨[(1000000, 1000000)], [], [], [], [], [], [], [], []⟩ h (OK_sL12Expr _ _) fun y10 h => (bsl_step (l := ([y10.1] : List GExpr)) (f := cGExpr) (g := oGExpr) (by kernel_rfl) cGExpr_eq (by kernel_rfl) (aq 8 cGExpr h fun y11 h => (sx 1 (ni (bn ?_))))))))))))))))
   exact lbs (OK_sL12Within_L0 _ _ _ _ _ _ h) (wr [(8, .old 8)] (es (es (es (eo 8 er_nil)))) (bs_ (bs_ br_nil)))
   refine ei (te (te (bh (xi (si (oi (sx 2 (cg ⟨[(1000000, 1000000)], [], [], [], [], [], [], [], []⟩ h (OK_sL12Sign _ _) fun y12 h => (cg ⟨[(1000000, 1000000)], [], [], [], [], [], [], [], []⟩ h (OK_sL12Step _ _) fun y13 h => (ni (xi (si (oi (sx 2 ?_))))))))))))))
   refine bldv_step (c := [(vI 7), (vI 0), (vB p2), (vI 0), (vI 0), (vS []), (vS []), (vS []), (.osl 8 37 10 (x8.map cGExpr)), (.nil 6)]) (by kernel_rfl) (by kernel_rfl) rfl (sx 1 (ni (xi ?_)))
   refine ret_wk (s' := ⟨[(6, (.ptr 6 0))], [(6, bGExpr (GExpr.mk 7 0 p2 (GValue.mk 0 0 []) [] [] x8 ([] : List GQuery))), (1000000, bGL12In y13)]⟩) (wr [] (es er_nil) (br_cons (c0 := [(vI 7), (vI 0), (vB p2), (vI 0), (vI 0), (vS []), (vS []), (vS []), (.osl 8 37 10 (x8.map cGExpr)), (.nil 6)]) (by kernel_rfl) (vrs_cons (vr_same (by kernel_rfl) (by kernel_rfl)) (vrs_cons (vr_same (by kernel_rfl) (by kernel_rfl)) (vrs_cons (vr_same (by kernel_rfl) (by kernel_rfl)) (vrs_cons (vr_same (by kernel_rfl) (by kernel_rfl)) (vrs_cons (vr_same (by kernel_rfl) (by kernel_rfl)) (vrs_cons (vr_same (by kernel_rfl) (by kernel_rfl)) (vrs_cons (vr_same (by kernel_rfl) (by kernel_rfl)) (vrs_cons (vr_same (by kernel_rfl) (by kernel_rfl)) (vrs_cons (vr_weak (by kernel_rfl) (by kernel_rfl)) (vrs_cons (vr_weak (by kernel_rfl) (by kernel_rfl)) (vrs_nil))))))))))) (br_cons (c0 := [(.d (.sl 3 (y13.t.map cGToken))), (vI y13.at_), (vB y13.bad)]) (by kernel_rfl) (vrs_cons (vr_same (by kernel_rfl) (by kernel_rfl)) (vrs_cons (vr_same (by kernel_rfl) (by kernel_rfl)) (vrs_cons (vr_same (by kernel_rfl) (by kernel_rfl)) (vrs_nil)))) br_nil))) ?_
   injection h with h; subst h
   exact rb
 · intro F_sL12Query_L0 F_sL12Item OK_sL12Query_L0 OK_sL12Item p0 r h
   refine ao trsL12Query (si (oi (sx 1 (ni (xi (si (oi (sx 2 (cg ⟨[(1000000, 1000000)], [], [], [], [], [], [], [], []⟩ h (OK_sL12Key _ _) fun y1 h => (cg ⟨[(1000000, 1000000)], [], [], [], [], [], [], [], []⟩ h (OK_sL12Step _ _) fun y2 h => (ni (xi (si (oi (sx 1 (cg ⟨[(1000000, 1000000)], [], [], [], [], [], [], [], []⟩ h (OK_sL12Maybe _ _) fun y3 h => ?_))))))))))))))))
   refine bldv_step (c := [(vB y3.1), (.nil 13), (.nil 3), (.nil 10), (.nil 11), (vI (-1))]) (by kernel_rfl) (by kernel_rfl) rfl (sx 2 (ni (xi (si (dops_in (dsx 3 (dcg ⟨[(1000000, 1000000)], [], [], [], [], [], [], [], []⟩ [] [] h (OK_sL12Item _) fun y4 h => (dbsl_step (l := ([y4.1] : List GItem)) (f := cGItem) (g := oGItem) (by kernel_rfl) cGItem_eq ?_))))))))
   refine dappn_step (m := ([y4.1] : List GItem)) (f := cGItem)  h (by kernel_rfl) (by kernel_rfl) (by kernel_rfl) (fun _ => rfl) fun y5 h => (dsx 2 (dnil_in (by kernel_rfl) (by kernel_rfl) (xi (si (bi ?_)))))
   exact lgs (OK_sL12Query_L0 _ _ _ _ _ _ h) (wr [(18, .old 18)] (es (es (es er_nil))) (bs_ (br_cons (c0 := [(vB y3.1), (.osl 18 80 13 (y5.map cGItem)), (.nil 3), (.nil 10), (.nil 11), (vI (-1))]) (by kernel_rfl) (vrs_cons (vr_same (by kernel_rfl) (by kernel_rfl)) (vrs_cons (vr_old (t := 18) (by kernel_rfl) (by kernel_rfl)) (vrs_cons (vr_same (by kernel_rfl) (by kernel_rfl)) (vrs_cons (vr_same (by kernel_rfl) (by kernel_rfl)) (vrs_cons (vr_same (by kernel_rfl) (by kernel_rfl)) (vrs_cons (vr_same (by kernel_rfl) (by kernel_rfl)) (vrs_nil))))))) (bs_ br_nil))))
 · intro F_sL12Query_L0 F_sL12Query_L1 F_sL12Item OK_sL12Query_L0 OK_sL12Query_L1 OK_sL12Item y3 b3_1 b1000000_0 b1000000_1 b1000000_2 r h
   delta mosL12Query_L0 acsL12Query_L0
   refine loop_unroll (si (si (oi (sx 1 (cg ⟨[(1000000, 1000000)], [], [], [], [], [], [], [], []⟩ h (OK_sL12Sign _ _) fun y6 h => (ni (xi ?_)))))))
   refine cd h (fun h => ?_) fun h => ?_
   refine ki (xi (bi (si (oi (sx 1 (cg ⟨[(1000000, 1000000)], [], [], [], [], [], [], [], []⟩ h (OK_sL12Step _ _) fun y7 h => (ni (xi (dops_in (dsx 3 (dcg ⟨[(1000000, 1000000)], [], [], [], [], [], [], [], []⟩ [] [] h (OK_sL12Item _) fun y8 h => (dbsl_step (l := ([y8.1] : List GItem)) (f := cGItem) (g := oGItem) (by kernel_rfl) cGItem_eq (daq 18 [25] [3] cGItem h fun y9 h => (dsx 2 ?_))))))))))))))
   refine dnil_in (by kernel_rfl) (by kernel_rfl) (bn ?_)
   exact lbs (OK_sL12Query_L0 _ _ _ _ _ _ h) (wr [(18, .old 29)] (es (es (es er_nil))) (bs_ (br_cons (c0 := [(vB y3.1), (.osl 29 80 13 (y9.map cGItem)), (.nil 3), (.nil 10), (.nil 11), (vI (-1))]) (by kernel_rfl) (vrs_cons (vr_same (by kernel_rfl) (by kernel_rfl)) (vrs_cons (vr_old (t := 29) (by kernel_rfl) (by kernel_rfl)) (vrs_cons (vr_same (by kernel_rfl) (by kernel_rfl)) (vrs_cons (vr_same (by kernel_rfl) (by kernel_rfl)) (vrs_cons (vr_same (by kernel_rfl) (by kernel_rfl)) (vrs_cons (vr_same (by kernel_rfl) (by kernel_rfl)) (vrs_nil))))))) (bs_ br_nil))))
   refine ei (te (te (bh (xi (si (oi (sx 2 (cg ⟨[(1000000, 1000000)], [], [], [], [], [], [], [], []⟩ h (OK_sL12Key _ _) fun y10 h => (cg ⟨[(1000000, 1000000)], [], [], [], [], [], [], [], []⟩ h (OK_sL12Step _ _) fun y11 h => (ni (xi (si (dops_in (dsx 3 (dcg ⟨[(1000000, 1000000)], [], [], [], [], [], [], [], []⟩ [] [] h (OK_sL12Source _) fun y12 h => ?_)))))))))))))))
   refine dbsl_step (l := ([y12.1] : List GSource)) (f := cGSource) (g := oGSource) (by kernel_rfl) cGSource_eq (dappn_step (m := ([y12.1] : List GSource)) (f := cGSource)  h (by kernel_rfl) (by kernel_rfl) (by kernel_rfl) (fun _ => rfl) fun y13 h => (dsx 2 (dnil_in (by kernel_rfl) (by kernel_rfl) (xi (si (bi ?_))))))
   exact lgs (OK_sL12Query_L1 _ _ _ _ _ _ _ h) (wr [(18, .old 18), (40, .old 40)] (es (es (es er_nil))) (bs_ (br_cons (c0 := [(vB y3.1), (.osl 18 80 13 (b3_1.map cGItem)), (.osl 40 83 3 (y13.map cGSource)), (.nil 10), (.nil 11), (vI (-1))]) (by kernel_rfl) (vrs_cons (vr_same (by kernel_rfl) (by kernel_rfl)) (vrs_cons (vr_old (t := 18) (by kernel_rfl) (by kernel_rfl)) (vrs_cons (vr_old (t := 40) (by kernel_rfl) (by kernel_rfl)) (vrs_cons (vr_same (by kernel_rfl) (by kernel_rfl)) (vrs_cons (vr_same (by kernel_rfl) (by kernel_rfl)) (vrs_cons (vr_same (by kernel_rfl) (by kernel_rfl)) (vrs_nil))))))) (bs_ br_nil))))
 · intro F_sL12Expr F_sL12Query_L3 F_sL12Sort F_sL12Where F_sL12Query_J2 OK_sL12Expr OK_sL12Query_L3 OK_sL12Sort OK_sL12Where OK_sL12Query_J2 y3 b3_1 b3_2 b1000000_0_14 b1000000_1_15 b1000000_2_16 r h
   delta mosL12Query_L1 acsL12Query_L1
   refine loop_unroll (si (si (oi (sx 1 (cg ⟨[(1000000, 1000000)], [], [], [], [], [], [], [], []⟩ h (OK_sL12Sign _ _) fun y17 h => (sx 1 (gq 0 ?_)))))))
   refine gcallg_step ⟨[(1000000, 1000000)], [], [], [], [], [], [], [], []⟩ (p := true) (b := y17) (m := sL12Key (GL12In.mk b1000000_0_14 b1000000_1_15 b1000000_2_16) 4) (dflt := (default : Bool)) h (by kernel_rfl) (OK_sL12Key _ _) (fun hc => by kernel_rfl) (by kernel_rfl) (by kernel_rfl) (by kernel_rfl) (fun y => by kernel_rfl) (by kernel_rfl) (fun hc => (Eq.trans (b := ([(true && (y17 == false))] : List Bool).all id) (by kernel_rfl) (all_c hc rfl))) (fun _ => rfl) fun y18 h => ?_
   refine pkO h fun y19 h => (ni (xi ?_))
   refine cd h (fun h => ?_) fun h => ?_
   refine ki (xi (bi (si (oi (sx 1 (cg ⟨[(1000000, 1000000)], [], [], [], [], [], [], [], []⟩ h (OK_sL12Key _ _) fun y20 h => (sx 1 (ni (xi (si (oi (sx 1 (cg ⟨[(1000000, 1000000)], [], [], [], [], [], [], [], []⟩ h (OK_sL12Step _ _) fun y21 h => (ni (xi (si (oi (sx 1 (cg ⟨[(1000000, 1000000)], [], [], [], [], [], [], [], []⟩ h (OK_sL12Source _) fun y22 h => (sx 2 (ni (xi (si (si ?_))))))))))))))))))))))))
   refine oi (sx 1 (ni (xi ?_)))
   refine cd h (fun h => ?_) fun h => ?_
   refine si (oi (sx 2 (cg ⟨[(1000000, 1000000)], [], [], [], [], [], [], [], []⟩ h (OK_sL12Key _ _) fun y23 h => (cg ⟨[(1000000, 1000000)], [], [], [], [], [], [], [], []⟩ h (OK_sL12Step _ _) fun y24 h => (ni (xi (oi (sx 1 (cg ⟨[(1000000, 1000000)], [], [], [], [], [], [], [], []⟩ h (OK_sL12Expr _ _) fun y25 h => ?_)))))))))
   refine bsl_step (l := ([y25.1] : List GExpr)) (f := cGExpr) (g := oGExpr) (by kernel_rfl) cGExpr_eq (by kernel_rfl) (sx 2 (ni ?_))
   exact nxs (OK_sL12Query_J2 _ _ _ _ _ _ (_, _) _ h) (wr [(18, .old 18), (40, .old 40)] (es (es (es (es er_nil)))) (bs_ (br_cons (c0 := [(vB y3.1), (.osl 18 80 13 (b3_1.map cGItem)), (.osl 40 83 3 (b3_2.map cGSource)), (.nil 10), (.nil 11), (vI (-1))]) (by kernel_rfl) (vrs_cons (vr_same (by kernel_rfl) (by kernel_rfl)) (vrs_cons (vr_old (t := 18) (by kernel_rfl) (by kernel_rfl)) (vrs_cons (vr_old (t := 40) (by kernel_rfl) (by kernel_rfl)) (vrs_cons (vr_same (by kernel_rfl) (by kernel_rfl)) (vrs_cons (vr_same (by kernel_rfl) (by kernel_rfl)) (vrs_cons (vr_same (by kernel_rfl) (by kernel_rfl)) (vrs_nil))))))) (br_cons (c0 := [(vS y22.1.table), (vS y22.1.as_), (.osl 61 37 10 (([y25.1] : List GExpr).map cGExpr))]) (by kernel_rfl) (vrs_cons (vr_same (by kernel_rfl) (by kernel_rfl)) (vrs_cons (vr_same (by kernel_rfl) (by kernel_rfl)) (vrs_cons (vr_weak (by kernel_rfl) (by kernel_rfl)) (vrs_nil)))) (bs_ br_nil)))))
   refine ki ?_
   exact nxs (OK_sL12Query_J2 _ _ _ _ _ _ (_, _) _ h) (wr [(18, .old 18), (40, .old 40)] (es (es (es (es er_nil)))) (bs_ (br_cons (c0 := [(vB y3.1), (.osl 18 80 13 (b3_1.map cGItem)), (.osl 40 83 3 (b3_2.map cGSource)), (.nil 10), (.nil 11), (vI (-1))]) (by kernel_rfl) (vrs_cons (vr_same (by kernel_rfl) (by kernel_rfl)) (vrs_cons (vr_old (t := 18) (by kernel_rfl) (by kernel_rfl)) (vrs_cons (vr_old (t := 40) (by kernel_rfl) (by kernel_rfl)) (vrs_cons (vr_same (by kernel_rfl) (by kernel_rfl)) (vrs_cons (vr_same (by kernel_rfl) (by kernel_rfl)) (vrs_cons (vr_same (by kernel_rfl) (by kernel_rfl)) (vrs_nil))))))) (bs_ (bs_ br_nil)))))
   refine ei (te (te (bh (xi (si (oi (sx 1 (cg ⟨[(1000000, 1000000)], [], [], [], [], [(2000000, 70)], [], [70], []⟩ h (OK_sL12Where _) fun y29 h => (sx 2 (ni (xi (si (si (oi (sx 1 (cg ⟨[(1000000, 1000000)], [], [], [], [], [], [], [], []⟩ h (OK_sL12Maybe _ _) fun y30 h => (ni (xi ?_))))))))))))))))))
   refine cd h (fun h => ?_) fun h => ?_
   refine si (oi (sx 2 (cg ⟨[(1000000, 1000000)], [], [], [], [], [], [], [], []⟩ h (OK_sL12Key _ _) fun y31 h => (cg ⟨[(1000000, 1000000)], [], [], [], [], [], [], [], []⟩ h (OK_sL12Step _ _) fun y32 h => (ni (xi (si (dops_in (dsx 3 (dcg ⟨[(1000000, 1000000)], [], [], [], [], [], [], [], []⟩ [] [] h (OK_sL12Sort _) fun y33 h => ?_))))))))))
   refine dbsl_step (l := ([y33.1] : List GSortKey)) (f := cGSortKey) (g := oGSortKey) (by kernel_rfl) cGSortKey_eq (dappn_step (m := ([y33.1] : List GSortKey)) (f := cGSortKey)  h (by kernel_rfl) (by kernel_rfl) (by kernel_rfl) (fun _ => rfl) fun y34 h => (dsx 2 (dnil_in (by kernel_rfl) (by kernel_rfl) (xi (bi ?_)))))
   exact lgs (OK_sL12Query_L3 _ _ _ _ _ _ (_, _) _ h) (wr [(18, .old 18), (40, .old 40), (70, .old 70), (83, .old 83)] (es (es (es er_nil))) (bs_ (br_cons (c0 := [(vB y3.1), (.osl 18 80 13 (b3_1.map cGItem)), (.osl 40 83 3 (b3_2.map cGSource)), (.osl 70 37 10 (y29.1.map cGExpr)), (.osl 83 87 11 (y34.map cGSortKey)), (vI (-1))]) (by kernel_rfl) (vrs_cons (vr_same (by kernel_rfl) (by kernel_rfl)) (vrs_cons (vr_old (t := 18) (by kernel_rfl) (by kernel_rfl)) (vrs_cons (vr_old (t := 40) (by kernel_rfl) (by kernel_rfl)) (vrs_cons (vr_old (t := 70) (by kernel_rfl) (by kernel_rfl)) (vrs_cons (vr_old (t := 83) (by kernel_rfl) (by kernel_rfl)) (vrs_cons (vr_same (by kernel_rfl) (by kernel_rfl)) (vrs_nil))))))) (bs_ br_nil))))
   refine ki ?_
   exact nxs (OK_sL12Query_J4 _ _ _ _ _ _ _ _ _ h) (wr [(18, .old 18), (40, .old 40), (70, .old 70), (83, .new 87 11)] (es (es (es er_nil))) (bs_ (br_cons (c0 := [(vB y3.1), (.osl 18 80 13 (b3_1.map cGItem)), (.osl 40 83 3 (b3_2.map cGSource)), (.osl 70 37 10 (y29.1.map cGExpr)), (.nil 11), (vI (-1))]) (by kernel_rfl) (vrs_cons (vr_same (by kernel_rfl) (by kernel_rfl)) (vrs_cons (vr_old (t := 18) (by kernel_rfl) (by kernel_rfl)) (vrs_cons (vr_old (t := 40) (by kernel_rfl) (by kernel_rfl)) (vrs_cons (vr_old (t := 70) (by kernel_rfl) (by kernel_rfl)) (vrs_cons (vr_new (by kernel_rfl) (by kernel_rfl)) (vrs_cons (vr_same (by kernel_rfl) (by kernel_rfl)) (vrs_nil))))))) (bs_ br_nil))))
 · intro F_sL12Query_L3 F_sL12Sort OK_sL12Query_L3 OK_sL12Sort y3 b3_1 b3_2 y29 b3_4 b1000000_0_35 kb1000000_1_36 r h
   delta mosL12Query_L3 acsL12Query_L3
   refine loop_unroll (si (si (oi (sx 1 (cg ⟨[(1000000, 1000000)], [], [], [], [], [], [], [], []⟩ h (OK_sL12Sign _ _) fun y43 h => (ni (xi ?_)))))))
   refine cd h (fun h => ?_) fun h => ?_
   refine ki (xi (bi (si (oi (sx 1 (cg ⟨[(1000000, 1000000)], [], [], [], [], [], [], [], []⟩ h (OK_sL12Step _ _) fun y44 h => (ni (xi (dops_in (dsx 3 (dcg ⟨[(1000000, 1000000)], [], [], [], [], [], [], [], []⟩ [] [] h (OK_sL12Sort _) fun y45 h => (dbsl_step (l := ([y45.1] : List GSortKey)) (f := cGSortKey) (g := oGSortKey) (by kernel_rfl) cGSortKey_eq (daq 83 [90] [3] cGSortKey h fun y46 h => (dsx 2 ?_))))))))))))))
   refine dnil_in (by kernel_rfl) (by kernel_rfl) (bn ?_)
   exact lbs (OK_sL12Query_L3 _ _ _ _ _ _ (_, _) _ h) (wr [(18, .old 18), (40, .old 40), (70, .old 70), (83, .old 94)] (es (es (es er_nil))) (bs_ (br_cons (c0 := [(vB y3.1), (.osl 18 80 13 (b3_1.map cGItem)), (.osl 40 83 3 (b3_2.map cGSource)), (.osl 70 37 10 (y29.1.map cGExpr)), (.osl 94 87 11 (y46.map cGSortKey)), (vI (-1))]) (by kernel_rfl) (vrs_cons (vr_same (by kernel_rfl) (by kernel_rfl)) (vrs_cons (vr_old (t := 18) (by kernel_rfl) (by kernel_rfl)) (vrs_cons (vr_old (t := 40) (by kernel_rfl) (by kernel_rfl)) (vrs_cons (vr_old (t := 70) (by kernel_rfl) (by kernel_rfl)) (vrs_cons (vr_old (t := 94) (by kernel_rfl) (by kernel_rfl)) (vrs_cons (vr_same (by kernel_rfl) (by kernel_rfl)) (vrs_nil))))))) (bs_ br_nil))))
   refine ei (te (te (bh ?_)))
   exact nxs (OK_sL12Query_J4 _ _ _ _ _ _ _ _ _ h) (wr [(18, .old 18), (40, .old 40), (70, .old 70), (83, .old 83)] (es (es (es er_nil))) (bs_ (br_cons (c0 := [(vB y3.1), (.osl 18 80 13 (b3_1.map cGItem)), (.osl 40 83 3 (b3_2.map cGSource)), (.osl 70 37 10 (y29.1.map cGExpr)), (.osl 83 87 11 (b3_4.map cGSortKey)), (vI (-1))]) (by kernel_rfl) (vrs_cons (vr_same (by kernel_rfl) (by kernel_rfl)) (vrs_cons (vr_old (t := 18) (by kernel_rfl) (by kernel_rfl)) (vrs_cons (vr_old (t := 40) (by kernel_rfl) (by kernel_rfl)) (vrs_cons (vr_old (t := 70) (by kernel_rfl) (by kernel_rfl)) (vrs_cons (vr_old (t := 83) (by kernel_rfl) (by kernel_rfl)) (vrs_cons (vr_same (by kernel_rfl) (by kernel_rfl)) (vrs_nil))))))) (bs_ br_nil))))
 · intro F_sL12Expr OK_sL12Expr p0 r h
   refine ao trsL12Sort (si (oi (sx 1 (ni (xi (si (oi (sx 1 (cg ⟨[(1000000, 1000000)], [], [], [], [], [], [], [], []⟩ h (OK_sL12Expr _ _) fun y1 h => (sx 2 (ni (xi (si (si (oi (sx 1 (cg ⟨[(1000000, 1000000)], [], [], [], [], [], [], [], []⟩ h (OK_sL12Maybe _ _) fun y2 h => (ni (xi ?_)))))))))))))))))))
   refine cd h (fun h => ?_) fun h => ?_
   refine si (oi (sx 3 (ni (xi (ri (tr ?_))))))
   injection h with h; subst h
   exact rb
   refine ki (xi (si (oi (sx 1 (cg ⟨[(1000000, 1000000)], [], [], [], [], [], [], [], []⟩ h (OK_sL12Maybe _ _) fun y3 h => (ni (xi (si (oi (sx 3 (ni (xi (ri ?_)))))))))))))
   injection h with h; subst h
   exact rb
 · intro F_sL12Expr OK_sL12Expr p0 r h
   refine ao trsL12Where (si (oi (sx 1 (ni (xi (si (si (oi (sx 1 (cg ⟨[(1000000, 1000000)], [], [], [], [], [], [], [], []⟩ h (OK_sL12Maybe _ _) fun y1 h => (ni (xi ?_))))))))))))
   refine cd h (fun h => ?_) fun h => ?_
   refine si (oi (sx 1 (cg ⟨[(1000000, 1000000)], [], [], [], [], [], [], [], []⟩ h (OK_sL12Expr _ _) fun y2 h => (bsl_step (l := ([y2.1] : List GExpr)) (f := cGExpr) (g := oGExpr) (by kernel_rfl) cGExpr_eq (by kernel_rfl) (sx 1 (ni (xi ?_)))))))
   refine ret_wk (s' := ⟨[(2, (.osl 2000000 37 10 (([y2.1] : List GExpr).map cGExpr)))], [(1000000, bGL12In y2.2)]⟩) (wr [(2000000, .old 2)] (eo 2 er_nil) (br_cons (c0 := [(.d (.sl 3 (y2.2.t.map cGToken))), (vI y2.2.at_), (vB y2.2.bad)]) (by kernel_rfl) (vrs_cons (vr_same (by kernel_rfl) (by kernel_rfl)) (vrs_cons (vr_same (by kernel_rfl) (by kernel_rfl)) (vrs_cons (vr_same (by kernel_rfl) (by kernel_rfl)) (vrs_nil)))) br_nil)) ?_
   refine tr ?_
   injection h with h; subst h
   exact rb
   refine ki (xi (si (oi (sx 1 (ni (xi ?_))))))
   refine ret_wk (s' := ⟨[(2, (.osl 2000000 37 10 (([] : List GExpr).map cGExpr)))], [(1000000, bGL12In y1.2)]⟩) (wr [(2000000, .new 37 10)] (en er_nil) (br_cons (c0 := [(.d (.sl 3 (y1.2.t.map cGToken))), (vI y1.2.at_), (vB y1.2.bad)]) (by kernel_rfl) (vrs_cons (vr_same (by kernel_rfl) (by kernel_rfl)) (vrs_cons (vr_same (by kernel_rfl) (by kernel_rfl)) (vrs_cons (vr_same (by kernel_rfl) (by kernel_rfl)) (vrs_nil)))) br_nil)) ?_
   injection h with h; subst h
   exact rb
 · intro F_sL12Query_L1 OK_sL12Query_L1 y3 b3_1 b3_2 y22 b5_2 b1000000_0_26 kb1000000_1_27 r h
   delta mosL12Query_J2 acsL12Query_J2
   refine oi (sx 3 (bsl_step (l := ([(GSource.mk y22.1.table y22.1.as_ b5_2)] : List GSource)) (f := cGSource) (g := oGSource) (by kernel_rfl) cGSource_eq (by kernel_rfl) (aq 40 cGSource h fun y42 h => (sx 2 (ni (bn ?_))))))
   exact lbs (OK_sL12Query_L1 _ _ _ _ _ _ _ h) (wr [(18, .old 18), (40, .old 67)] (es (es (es er_nil))) (bs_ (br_cons (c0 := [(vB y3.1), (.osl 18 80 13 (b3_1.map cGItem)), (.osl 67 83 3 (y42.map cGSource)), (.nil 10), (.nil 11), (vI (-1))]) (by kernel_rfl) (vrs_cons (vr_same (by kernel_rfl) (by kernel_rfl)) (vrs_cons (vr_old (t := 18) (by kernel_rfl) (by kernel_rfl)) (vrs_cons (vr_old (t := 67) (by kernel_rfl) (by kernel_rfl)) (vrs_cons (vr_same (by kernel_rfl) (by kernel_rfl)) (vrs_cons (vr_same (by kernel_rfl) (by kernel_rfl)) (vrs_cons (vr_same (by kernel_rfl) (by kernel_rfl)) (vrs_nil))))))) (bs_ br_nil))))
 · intro F_sL12Expr OK_sL12Expr p0 r h
   refine ao trsL12Item (si (oi (sx 1 (ni (xi (si (oi (sx 1 (cg ⟨[(1000000, 1000000)], [], [], [], [], [], [], [], []⟩ h (OK_sL12Next _ _) fun y1 h => (sx 2 (ni (xi (si (oi (sx 1 (cg ⟨[(1000000, 1000000)], [], [], [], [], [], [], [], []⟩ h (OK_sL12Next _ _) fun y2 h => (sx 2 (ni (xi (si (si (oi (sx 1 (cg ⟨[(1000000, 1000000)], [], [], [], [], [], [], [], []⟩ h (OK_sL12Sign _ _) fun y3 h => ?_))))))))))))))))))))))))
   refine ni (xi ?_)
   refine cd h (fun h => ?_) fun h => ?_
   refine si (oi (sx 1 (cg ⟨[(1000000, 1000000)], [], [], [], [], [], [], [], []⟩ h (OK_sL12Step _ _) fun y4 h => (ni (xi (si (oi (bldv_step (c := [(vB true), (vS []), (vI 0), (vI 0), (vB false), (vI 0), (vI 0), (vS []), (vS []), (vS []), (.nil 10), (.nil 6), (vS [])]) (by kernel_rfl) (by kernel_rfl) rfl (sx 1 (ni (xi ?_)))))))))))
   refine ret_wk (s' := ⟨[(2, (.ptr 2 0))], [(2, bGItem (GItem.mk true [] (GExpr.mk 0 0 false (GValue.mk 0 0 []) [] [] ([] : List GExpr) ([] : List GQuery)) [])), (1000000, bGL12In y4)]⟩) (wr [] (es er_nil) (br_cons (c0 := [(vB true), (vS []), (vI 0), (vI 0), (vB false), (vI 0), (vI 0), (vS []), (vS []), (vS []), (.nil 10), (.nil 6), (vS [])]) (by kernel_rfl) (vrs_cons (vr_same (by kernel_rfl) (by kernel_rfl)) (vrs_cons (vr_same (by kernel_rfl) (by kernel_rfl)) (vrs_cons (vr_same (by kernel_rfl) (by kernel_rfl)) (vrs_cons (vr_same (by kernel_rfl) (by kernel_rfl)) (vrs_cons (vr_same (by kernel_rfl) (by kernel_rfl)) (vrs_cons (vr_same (by kernel_rfl) (by kernel_rfl)) (vrs_cons (vr_same (by kernel_rfl) (by kernel_rfl)) (vrs_cons (vr_same (by kernel_rfl) (by kernel_rfl)) (vrs_cons (vr_same (by kernel_rfl) (by kernel_rfl)) (vrs_cons (vr_same (by kernel_rfl) (by kernel_rfl)) (vrs_cons (vr_weak (by kernel_rfl) (by kernel_rfl)) (vrs_cons (vr_weak (by kernel_rfl) (by kernel_rfl)) (vrs_cons (vr_same (by kernel_rfl) (by kernel_rfl)) (vrs_nil)))))))))))))) (br_cons (c0 := [(.d (.sl 3 (y4.t.map cGToken))), (vI y4.at_), (vB y4.bad)]) (by kernel_rfl) (vrs_cons (vr_same (by kernel_rfl) (by kernel_rfl)) (vrs_cons (vr_same (by kernel_rfl) (by kernel_rfl)) (vrs_cons (vr_same (by kernel_rfl) (by kernel_rfl)) (vrs_nil)))) br_nil))) ?_
   refine tr ?_
   injection h with h; subst h
   exact rb
   refine ki (xi (si (si (oi (sx 1 (cg ⟨[(1000000, 1000000)], [], [], [], [], [], [], [], []⟩ h (OK_sL12Kind _ _) fun y5 h => (sx 1 (gq 0 (gq 1 (gq 1 (pkA h fun y6 h => (sx 1 (gq 0 (gq 1 (gq 1 (pkA h fun y7 h => (sx 1 (gq 0 (gq 1 (gq 1 (pkA h fun y8 h => (sx 1 (gq 0 (gq 1 (gq 1 (pkA h fun y9 h => (ni (xi ?_))))))))))))))))))))))))))))
   refine cd h (fun h => ?_) fun h => ?_
   refine si (oi (sx 1 (cg ⟨[(1000000, 1000000)], [], [], [], [], [], [], [], []⟩ h (OK_sL12Text _ _) fun y10 h => (bldv_step (c := [(vB true), (vS y10.1), (vI 0), (vI 0), (vB false), (vI 0), (vI 0), (vS []), (vS []), (vS []), (.nil 10), (.nil 6), (vS [])]) (by kernel_rfl) (by kernel_rfl) rfl (sx 2 (ni (xi (si (oi (sx 1 ?_))))))))))
   refine cg ⟨[(1000000, 1000000)], [], [], [], [], [], [], [], []⟩ h (OK_sL12Step _ _) fun y11 h => (ni (xi (si (oi (sx 1 (cg ⟨[(1000000, 1000000)], [], [], [], [], [], [], [], []⟩ h (OK_sL12Step _ _) fun y12 h => (ni (xi (si (oi (sx 2 (ni (xi ?_)))))))))))))
   refine ret_wk (s' := ⟨[(2, (.ptr 2 0))], [(2, bGItem (GItem.mk true y10.1 (GExpr.mk 0 0 false (GValue.mk 0 0 []) [] [] ([] : List GExpr) ([] : List GQuery)) [])), (1000000, bGL12In y12)]⟩) (wr [] (es er_nil) (br_cons (c0 := [(vB true), (vS y10.1), (vI 0), (vI 0), (vB false), (vI 0), (vI 0), (vS []), (vS []), (vS []), (.nil 10), (.nil 6), (vS [])]) (by kernel_rfl) (vrs_cons (vr_same (by kernel_rfl) (by kernel_rfl)) (vrs_cons (vr_same (by kernel_rfl) (by kernel_rfl)) (vrs_cons (vr_same (by kernel_rfl) (by kernel_rfl)) (vrs_cons (vr_same (by kernel_rfl) (by kernel_rfl)) (vrs_cons (vr_same (by kernel_rfl) (by kernel_rfl)) (vrs_cons (vr_same (by kernel_rfl) (by kernel_rfl)) (vrs_cons (vr_same (by kernel_rfl) (by kernel_rfl)) (vrs_cons (vr_same (by kernel_rfl) (by kernel_rfl)) (vrs_cons (vr_same (by kernel_rfl) (by kernel_rfl)) (vrs_cons (vr_same (by kernel_rfl) (by kernel_rfl)) (vrs_cons (vr_weak (by kernel_rfl) (by kernel_rfl)) (vrs_cons (vr_weak (by kernel_rfl) (by kernel_rfl)) (vrs_cons (vr_same (by kernel_rfl) (by kernel_rfl)) (vrs_nil)))))))))))))) (br_cons (c0 := [(.d (.sl 3 (y12.t.map cGToken))), (vI y12.at_), (vB y12.bad)]) (by kernel_rfl) (vrs_cons (vr_same (by kernel_rfl) (by kernel_rfl)) (vrs_cons (vr_same (by kernel_rfl) (by kernel_rfl)) (vrs_cons (vr_same (by kernel_rfl) (by kernel_rfl)) (vrs_nil)))) br_nil))) ?_
   refine tr ?_
   injection h with h; subst h
   exact rb
   refine ki (xi (si (oi (sx 1 (cg ⟨[(1000000, 1000000)], [], [], [], [], [], [], [], []⟩ h (OK_sL12Expr _ _) fun y13 h => (sx 2 (ni (xi (si (dops_in (dsx 2 (dcg ⟨[(1000000, 1000000)], [], [], [], [], [], [], [], []⟩ [] [] h (OK_sL12As _) fun y14 h => (dsx 2 (dnil_in (by kernel_rfl) (by kernel_rfl) (xi (ri ?_))))))))))))))))
   injection h with h; subst h
   exact rb
theorem OK_sL12Prim (p0 : GL12In) : FOkB Tryz.prog 22 [(.ptr 1000000 0)] [(1000000, bGL12In p0)] (fun (y : GExpr × GL12In) => (vGExpr y.1)) (fun (y : GExpr × GL12In) => [(1000000, bGL12In y.2)]) (sL12Prim p0) := fun r h => (OKs_sL12Prim).1 p0 r h
theorem OK_sL12Expr (p0 : GL12In) (p1 : Int) : FOkB Tryz.prog 14 [(.ptr 1000000 0), (vI p1)] [(1000000, bGL12In p0)] (fun (y : GExpr × GL12In) => (vGExpr y.1)) (fun (y : GExpr × GL12In) => [(1000000, bGL12In y.2)]) (sL12Expr p0 p1) := fun r h => (OKs_sL12Prim).2.1 p0 p1 r h
theorem OK_sL12Expr_L0 (p1 : Int) (b5_0 : Int) (b5_1 : Int) (b5_2 : Bool) (b5_3 : Int) (b5_4 : Int) (kb5_5 : ((List UInt8) × ((List UInt8) × ((List UInt8) × ((List GExpr) × ((List GQuery) × ((List GToken) × (Int × Bool)))))))) (r : GExpr × GL12In) (h : sL12Expr_L0 p1 b5_0 b5_1 b5_2 b5_3 b5_4 kb5_5 = some r) : mosL12Expr_L0 p1 b5_0 b5_1 b5_2 b5_3 b5_4 kb5_5 r := (OKs_sL12Prim).2.2.1 p1 b5_0 b5_1 b5_2 b5_3 b5_4 kb5_5 r h
theorem OK_sL12Cmp (p0 : GL12In) : FOkB Tryz.prog 19 [(.ptr 1000000 0)] [(1000000, bGL12In p0)] (fun (y : GExpr × GL12In) => (vGExpr y.1)) (fun (y : GExpr × GL12In) => [(1000000, bGL12In y.2)]) (sL12Cmp p0) := fun r h => (OKs_sL12Prim).2.2.2.1 p0 r h
theorem OK_sL12Within (p0 : GL12In) (p1 : GExpr) (p2 : Bool) : FOkB Tryz.prog 27 [(.ptr 1000000 0), (vGExpr p1), (vB p2)] [(1000000, bGL12In p0)] (fun (y : GExpr × GL12In) => (vGExpr y.1)) (fun (y : GExpr × GL12In) => [(1000000, bGL12In y.2)]) (sL12Within p0 p1 p2) := fun r h => (OKs_sL12Prim).2.2.2.2.1 p0 p1 p2 r h
theorem OK_sL12Within_L0 (p2 : Bool) (x8 : (List GExpr)) (b1000000_0 : (List GToken)) (b1000000_1 : Int) (b1000000_2 : Bool) (r : GExpr × GL12In) (h : sL12Within_L0 p2 x8 b1000000_0 b1000000_1 b1000000_2 = some r) : mosL12Within_L0 p2 x8 b1000000_0 b1000000_1 b1000000_2 r := (OKs_sL12Prim).2.2.2.2.2.1 p2 x8 b1000000_0 b1000000_1 b1000000_2 r h
theorem OK_sL12Query (p0 : GL12In) : FOkB Tryz.prog 34 [(.ptr 1000000 0)] [(1000000, bGL12In p0)] (fun (y : GQuery × GL12In) => (vGQuery y.1)) (fun (y : GQuery × GL12In) => [(1000000, bGL12In y.2)]) (sL12Query p0) := fun r h => (OKs_sL12Prim).2.2.2.2.2.2.1 p0 r h
theorem OK_sL12Query_L0 (y3 : Bool × GL12In) (b3_1 : (List GItem)) (b1000000_0 : (List GToken)) (b1000000_1 : Int) (b1000000_2 : Bool) (r : GQuery × GL12In) (h : sL12Query_L0 y3 b3_1 b1000000_0 b1000000_1 b1000000_2 = some r) : mosL12Query_L0 y3 b3_1 b1000000_0 b1000000_1 b1000000_2 r := (OKs_sL12Prim).2.2.2.2.2.2.2.1 y3 b3_1 b1000000_0 b1000000_1 b1000000_2 r h
theorem OK_sL12Query_L1 (y3 : Bool × GL12In) (b3_1 : (List GItem)) (b3_2 : (List GSource)) (b1000000_0_14 : (List GToken)) (b1000000_1_15 : Int) (b1000000_2_16 : Bool) (r : GQuery × GL12In) (h : sL12Query_L1 y3 b3_1 b3_2 b1000000_0_14 b1000000_1_15 b1000000_2_16 = some r) : mosL12Query_L1 y3 b3_1 b3_2 b1000000_0_14 b1000000_1_15 b1000000_2_16 r := (OKs_sL12Prim).2.2.2.2.2.2.2.2.1 y3 b3_1 b3_2 b1000000_0_14 b1000000_1_15 b1000000_2_16 r h
theorem OK_sL12Query_L3 (y3 : Bool × GL12In) (b3_1 : (List GItem)) (b3_2 : (List GSource)) (y29 : (List GExpr) × GL12In) (b3_4 : (List GSortKey)) (b1000000_0_35 : (List GToken)) (kb1000000_1_36 : (Int × Bool)) (r : GQuery × GL12In) (h : sL12Query_L3 y3 b3_1 b3_2 y29 b3_4 b1000000_0_35 kb1000000_1_36 = some r) : mosL12Query_L3 y3 b3_1 b3_2 y29 b3_4 b1000000_0_35 kb1000000_1_36 r := (OKs_sL12Prim).2.2.2.2.2.2.2.2.2.1 y3 b3_1 b3_2 y29 b3_4 b1000000_0_35 kb1000000_1_36 r h
theorem OK_sL12Sort (p0 : GL12In) : FOkB Tryz.prog 46 [(.ptr 1000000 0)] [(1000000, bGL12In p0)] (fun (y : GSortKey × GL12In) => (vGSortKey y.1)) (fun (y : GSortKey × GL12In) => [(1000000, bGL12In y.2)]) (sL12Sort p0) := fun r h => (OKs_sL12Prim).2.2.2.2.2.2.2.2.2.2.1 p0 r h
theorem OK_sL12Where (p0 : GL12In) : FOkB Tryz.prog 45 [(.ptr 1000000 0)] [(1000000, bGL12In p0)] (fun (y : (List GExpr) × GL12In) => (.osl 2000000 37 10 (y.1.map cGExpr))) (fun (y : (List GExpr) × GL12In) => [(1000000, bGL12In y.2)]) (sL12Where p0) := fun r h => (OKs_sL12Prim).2.2.2.2.2.2.2.2.2.2.2.1 p0 r h
theorem OK_sL12Query_J2 (y3 : Bool × GL12In) (b3_1 : (List GItem)) (b3_2 : (List GSource)) (y22 : GSource × GL12In) (b5_2 : (List GExpr)) (b1000000_0_26 : (List GToken)) (kb1000000_1_27 : (Int × Bool)) (r : GQuery × GL12In) (h : sL12Query_J2 y3 b3_1 b3_2 y22 b5_2 b1000000_0_26 kb1000000_1_27 = some r) : mosL12Query_J2 y3 b3_1 b3_2 y22 b5_2 b1000000_0_26 kb1000000_1_27 r := (OKs_sL12Prim).2.2.2.2.2.2.2.2.2.2.2.2.1 y3 b3_1 b3_2 y22 b5_2 b1000000_0_26 kb1000000_1_27 r h
theorem OK_sL12Item (p0 : GL12In) : FOkB Tryz.prog 43 [(.ptr 1000000 0)] [(1000000, bGL12In p0)] (fun (y : GItem × GL12In) => (vGItem y.1)) (fun (y : GItem × GL12In) => [(1000000, bGL12In y.2)]) (sL12Item p0) := fun r h => (OKs_sL12Prim).2.2.2.2.2.2.2.2.2.2.2.2.2 p0 r h
theorem OK_sTakeExpr (p0 : (List GToken)) : FOk Tryz.prog 10 [(.d (.sl 3 (p0.map cGToken)))] (fun y => (.tup [(vGExpr y.1), (vI y.2)])) (sTakeExpr p0) := by
 intro r h
 rw [sTakeExpr] at h
 refine ao trsTakeExpr (si (oi (sx 2 (ni (xi (si (oi (sx 4 (ni (xi (si (oi (sx 1 (cg ⟨[(1000000, 9)], [], [], [], [], [], [], [], []⟩ h (OK_sL12Expr _ _) fun y1 h => (sx 2 (ni (xi (si (oi (sx 1 (cg ⟨[(1000000, 9)], [], [], [], [], [], [], [], []⟩ h (OK_sL12End _) fun y2 h => (sx 1 (ni (xi (si (si (oi (sx 2 (ni (xi ?_))))))))))))))))))))))))))))))
 refine cd h (fun h => ?_) fun h => ?_
 refine si (oi (bldv_step (c := [(vI 0), (vI 0), (vB false), (vI 0), (vI 0), (vS []), (vS []), (vS []), (.nil 10), (.nil 6)]) (by kernel_rfl) (by kernel_rfl) rfl (sx 3 (ni (xi ?_)))))
 refine ret_wk (s' := ⟨[(2, (.ptr 2 0)), (3, (vI y2))], [(2, bGExpr (GExpr.mk 0 0 false (GValue.mk 0 0 []) [] [] ([] : List GExpr) ([] : List GQuery)))]⟩) (wr [] (es (es er_nil)) (br_cons (c0 := [(vI 0), (vI 0), (vB false), (vI 0), (vI 0), (vS []), (vS []), (vS []), (.nil 10), (.nil 6)]) (by kernel_rfl) (vrs_cons (vr_same (by kernel_rfl) (by kernel_rfl)) (vrs_cons (vr_same (by kernel_rfl) (by kernel_rfl)) (vrs_cons (vr_same (by kernel_rfl) (by kernel_rfl)) (vrs_cons (vr_same (by kernel_rfl) (by kernel_rfl)) (vrs_cons (vr_same (by kernel_rfl) (by kernel_rfl)) (vrs_cons (vr_same (by kernel_rfl) (by kernel_rfl)) (vrs_cons (vr_same (by kernel_rfl) (by kernel_rfl)) (vrs_cons (vr_same (by kernel_rfl) (by kernel_rfl)) (vrs_cons (vr_weak (by kernel_rfl) (by kernel_rfl)) (vrs_cons (vr_weak (by kernel_rfl) (by kernel_rfl)) (vrs_nil))))))))))) br_nil)) ?_
 refine tr ?_
 injection h with h; subst h
 exact rnp
 refine ki (xi (si (oi (sx 3 (ni (xi (ri ?_)))))))
 injection h with h; subst h
 exact rnp
theorem OK_sBegins (p0 : (List GToken)) : FOk Tryz.prog 5 [(.d (.sl 3 (p0.map cGToken)))] (fun y => (vB y)) (sBegins p0) := by
 intro r h
 rw [sBegins] at h
 refine ao trsBegins (si (oi (sx 1 (ni (xi (si (oi (sx 1 (cs h (OK_sTakeExpr _) fun y1 h => (sx 6 (ni (xi (si (oi (sx 3 (gq 0 (gq 0 (glq 1 p0 (gq 2 (pkO h fun y2 h => (sx 1 (ni (xi (ri ?_))))))))))))))))))))))))
 injection h with h; subst h
 exact rp
theorem OK_wEqToken (p0 : GToken) (p1 : GToken) : FOk Tryz.prog 13 [(vGToken p0), (vGToken p1)] (fun y => (vB y)) (wEqToken p0 p1) := by
 intro r h
 rw [wEqToken] at h
 refine ao trwEqToken (si (oi (sx 3 (ni (xi (si (si (oi (sx 5 (ni (xi ?_)))))))))))
 refine cd h (fun h => ?_) fun h => ?_
 refine si (oi (sx 1 (ni (xi (ri (tr ?_))))))
 injection h with h; subst h
 exact rp
 refine ki (xi (si (si (oi (sx 5 (ni (xi ?_)))))))
 refine cd h (fun h => ?_) fun h => ?_
 refine si (oi (sx 1 (ni (xi (ri (tr ?_))))))
 injection h with h; subst h
 exact rp
 refine ki (xi (si (si (oi (sx 5 (ni (xi ?_)))))))
 refine cd h (fun h => ?_) fun h => ?_
 refine si (oi (sx 1 (ni (xi (ri (tr ?_))))))
 injection h with h; subst h
 exact rp
 refine ki (xi (si (oi (sx 1 (ni (xi (ri ?_)))))))
 injection h with h; subst h
 exact rp
theorem OKs_wEqTokenS_L0 (p0 : (List GToken)) (p1 : (List GToken)) : (∀ (x5 : Int) (r : Bool), wEqTokenS_L0 p0 p1 x5 = some r → mowEqTokenS_L0 p0 p1 x5 r) := by
 refine wEqTokenS_L0.partial_correctness p0 p1 (fun x5 r => mowEqTokenS_L0 p0 p1 x5 r) ?_
 · intro F_wEqTokenS_L0 OK_wEqTokenS_L0 x5 r h
   delta mowEqTokenS_L0 acwEqTokenS_L0
   refine loop_unroll (si (si (oi (sx 2 (lq p0 (sx 1 (ni (xi ?_))))))))
   refine cd h (fun h => ?_) fun h => ?_
   refine ki (xi (si (bi (si (dops_in (dsx 2 (diq h fun y1 h => (dsx 3 (diq h fun y2 h => (dsx 1 (dcs h (OK_wEqToken _ _) fun y3 h => (dsx 1 (dnil_in (by kernel_rfl) (by kernel_rfl) (xi ?_))))))))))))))
   refine cd h (fun h => ?_) fun h => ?_
   refine si (oi (sx 1 (ni (xi (ri (br (tr (tr (br (tr ?_))))))))))
   injection h with h; subst h
   exact rp
   exact ki (bn (xi (oi (sx 3 (ni (lbs (OK_wEqTokenS_L0 _ _ h) (wr [] (es (es (es er_nil))) br_nil)))))))
   refine ei (te (te (bh (xi (si (oi (sx 1 (ni (xi (ri ?_))))))))))
   injection h with h; subst h
   exact rp
theorem OK_wEqTokenS_L0 (p0 : (List GToken)) (p1 : (List GToken)) (x5 : Int) (r : Bool) (h : wEqTokenS_L0 p0 p1 x5 = some r) : mowEqTokenS_L0 p0 p1 x5 r := (OKs_wEqTokenS_L0 p0 p1) x5 r h
theorem OK_wEqTokenS (p0 : (List GToken)) (p1 : (List GToken)) : FOk Tryz.prog 8 [(.d (.sl 3 (p0.map cGToken))), (.d (.sl 3 (p1.map cGToken)))] (fun y => (vB y)) (wEqTokenS p0 p1) := by
 intro r h
 rw [wEqTokenS] at h
 refine ao trwEqTokenS (si (oi (sx 1 (ni (xi (si (si (oi (sx 1 (lq p0 (sx 1 (lq p1 (sx 1 (ni (xi ?_)))))))))))))))
 refine cd h (fun h => ?_) fun h => ?_
 refine si (oi (sx 1 (ni (xi (ri (tr ?_))))))
 injection h with h; subst h
 exact rp
 exact ki (xi (si (si (oi (sx 1 (ni (xi (bi (lgs (OK_wEqTokenS_L0 _ _ _ _ h) (wr [] (es (es (es er_nil))) br_nil))))))))))
theorem OK_wSzToken (p0 : GToken) (p1 : Int) : FOk Tryz.prog 9 [(vGToken p0), (vI p1)] (fun y => (vI y)) (wSzToken p0 p1) := by
 intro r h
 rw [wSzToken] at h
 refine ao trwSzToken (si (oi (sx 2 (ni (xi (si (oi (sx 6 (ni (xi (si (si (oi (sx 2 (ni (xi ?_))))))))))))))))
 refine cd h (fun h => ?_) fun h => ?_
 refine si (oi (sx 1 (ni (xi (ri (tr ?_))))))
 injection h with h; subst h
 exact rp
 refine ki (xi (si (oi (sx 2 (ni (xi (ri ?_)))))))
 injection h with h; subst h
 exact rp
theorem OKs_wSzTokenS_L0 (p0 : (List GToken)) : (∀ (x1 : Int) (x5 : Int) (r : Int), wSzTokenS_L0 p0 x1 x5 = some r → mowSzTokenS_L0 p0 x1 x5 r) := by
 refine wSzTokenS_L0.partial_correctness p0 (fun x1 x5 r => mowSzTokenS_L0 p0 x1 x5 r) ?_
 · intro F_wSzTokenS_L0 OK_wSzTokenS_L0 x1 x5 r h
   delta mowSzTokenS_L0 acwSzTokenS_L0
   refine loop_unroll (si (si (oi (sx 2 (lq p0 (sx 1 (ni (xi ?_))))))))
   refine cd h (fun h => ?_) fun h => ?_
   refine ki (xi (si (bi (si (oi (sx 2 (iq h fun y1 h => (sx 2 (cs h (OK_wSzToken _ _) fun y2 h => (sx 1 (ni (xi (si (oi (sx 2 (ni (xi ?_)))))))))))))))))
   refine cd h (fun h => ?_) fun h => ?_
   refine si (oi (sx 1 (ni (xi (ri (br (tr (tr (br (tr ?_))))))))))
   injection h with h; subst h
   exact rp
   exact ki (bn (xi (oi (sx 3 (ni (lbs (OK_wSzTokenS_L0 _ _ _ h) (wr [] (es (es (es er_nil))) br_nil)))))))
   refine ei (te (te (bh (xi (si (oi (sx 2 (ni (xi (ri ?_))))))))))
   injection h with h; subst h
   exact rp
theorem OK_wSzTokenS_L0 (p0 : (List GToken)) (x1 : Int) (x5 : Int) (r : Int) (h : wSzTokenS_L0 p0 x1 x5 = some r) : mowSzTokenS_L0 p0 x1 x5 r := (OKs_wSzTokenS_L0 p0) x1 x5 r h
theorem OK_wSzTokenS (p0 : (List GToken)) (p1 : Int) : FOk Tryz.prog 4 [(.d (.sl 3 (p0.map cGToken))), (vI p1)] (fun y => (vI y)) (wSzTokenS p0 p1) := by
 intro r h
 rw [wSzTokenS] at h
 refine ao trwSzTokenS (si (oi (sx 1 (ni (xi (si (oi (sx 2 (lq p0 (sx 2 (ni (xi (si (si (oi (sx 2 (ni (xi ?_))))))))))))))))))
 refine cd h (fun h => ?_) fun h => ?_
 refine si (oi (sx 1 (ni (xi (ri (tr ?_))))))
 injection h with h; subst h
 exact rp
 exact ki (xi (si (si (oi (sx 1 (ni (xi (bi (lgs (OK_wSzTokenS_L0 _ _ _ _ h) (wr [] (es (es (es er_nil))) br_nil))))))))))
theorem OK_wToToken (p0 : GToken) : FOk Tryz.prog 11 [(vGToken p0)] (fun y => (vGToken y)) (wToToken p0) := by
 intro r h
 rw [wToToken] at h
 refine ao trwToToken (si (oi (sx 2 (ni (xi (si (oi (sx 1 (ni (xi (si (oi (sx 4 (ni (xi (si (oi (sx 4 (ni (xi (si (oi (sx 4 (ni (xi (si (oi (sx 2 (ni (xi (ri ?_)))))))))))))))))))))))))))))))
 injection h with h; subst h
 exact rp
theorem OKs_wToTokenS_L0 (p0 : (List GToken)) : (∀ (x4 : Int) (b7_0 : (List GToken)) (r : (List GToken)), wToTokenS_L0 p0 x4 b7_0 = some r → mowToTokenS_L0 p0 x4 b7_0 r) := by
 refine wToTokenS_L0.partial_correctness p0 (fun x4 b7_0 r => mowToTokenS_L0 p0 x4 b7_0 r) ?_
 · intro F_wToTokenS_L0 OK_wToTokenS_L0 x4 b7_0 r h
   delta mowToTokenS_L0 acwToTokenS_L0
   refine loop_unroll (si (si (oi (sx 2 (lq p0 (sx 1 (ni (xi ?_))))))))
   refine cd h (fun h => ?_) fun h => ?_
   refine ki (xi (si (bi (oi (sx 4 (iq h fun y2 h => (sx 1 (cs h (OK_wToToken _) fun y3 h => (vs (fun (y : GToken) => (.ptr 7 ((0 + (x4).toNat) * 3))) h (fun y hy => vop_iaE (l := b7_0) (k := .i64) hy (by kernel_rfl) (by kernel_rfl) (by kernel_rfl)) fun y4 h => ?_)))))))))
   refine sti_step (b := 7) (i := x4) (l := b7_0) (v := y3) (f := cGToken) (u := (vGToken y3)) (T := fun y m => ⟨[(21, (.ptr 7 ((0 + (x4).toNat) * 3))), (20, (vGToken y3)), (19, (vGToken y2)), (18, (.rp (cGToken y2))), (17, (vI x4)), (16, (.d (.sl 3 (p0.map cGToken)))), (15, (vI x4)), (14, (.msl 7 3 0 m m)), (11, (vB (decide (x4 < (ln p0))))), (10, (vI (ln p0))), (9, (.d (.sl 3 (p0.map cGToken)))), (8, (vI x4)), (0, (.d (.sl 3 (p0.map cGToken)))), (3, (.msl 7 3 0 m m)), (4, (vI x4))], [(7, rowsV (y.map cGToken))]⟩) h (by kernel_rfl) (by kernel_rfl) (by kernel_rfl) (by kernel_rfl) (fun y => (congrArg List.length ((fun _ => rfl) y)).trans rfl) (by kernel_rfl) (fun y => by kernel_rfl) fun y5 h => ?_
   exact ni (bn (xi (oi (sx 3 (ni (lbs (OK_wToTokenS_L0 _ _ _ h) (wr [] (es (es (es er_nil))) (br_rows (by kernel_rfl) br_nil))))))))
   refine ei (te (te (bh (xi (si (oi (sx 2 (ni (xi (ret_frz (n := 7) (sz := 3) (l := b7_0) (f := cGToken) (s' := ⟨[(2, (.d (.sl 3 (b7_0.map cGToken))))], []⟩) (by decide) (fun y => (congrArg List.length ((fun _ => rfl) y)).trans rfl) (by kernel_rfl) (⟨.inr ⟨b7_0.length, b7_0.length, by kernel_rfl, lms b7_0 _, by kernel_rfl⟩, trivial⟩) (trivial) (ri ?_)))))))))))
   injection h with h; subst h
   exact rp
theorem OK_wToTokenS_L0 (p0 : (List GToken)) (x4 : Int) (b7_0 : (List GToken)) (r : (List GToken)) (h : wToTokenS_L0 p0 x4 b7_0 = some r) : mowToTokenS_L0 p0 x4 b7_0 r := (OKs_wToTokenS_L0 p0) x4 b7_0 r h
theorem OK_wToTokenS (p0 : (List GToken)) : FOk Tryz.prog 6 [(.d (.sl 3 (p0.map cGToken)))] (fun y => (.d (.sl 3 (y.map cGToken)))) (wToTokenS p0) := by
 intro r h
 rw [wToTokenS] at h
 exact ao trwToTokenS (si (oi (sx 1 (ni (xi (si (oi (sx 1 (lq p0 (mks_step (k := .i64) (k' := .i64) (z := ((GToken.mk 0 [] 0) : GToken)) (f := cGToken) h (by kernel_rfl) (by kernel_rfl) (by kernel_rfl) (by kernel_rfl) (by kernel_rfl) (fun _ => rfl) fun y1 h => (sx 1 (ni (xi (si (si (oi (sx 1 (ni (xi (bi (lgs (OK_wToTokenS_L0 _ _ _ _ h) (wr [] (es (es (es er_nil))) (br_rows (by kernel_rfl) br_nil)))))))))))))))))))))))
theorem OK_wFnExactBegins (p0 : (List GToken)) : FOk Tryz.prog 3 [(.d (.sl 3 (p0.map cGToken)))] (fun y => (vB y)) (wFnExactBegins p0) := by
 intro r h
 rw [wFnExactBegins] at h
 refine ao trwFnExactBegins (si (oi (sx 1 (ni (xi (si (oi (sx 1 (ni (xi (si (oi (sx 2 (cs h (OK_wSzTokenS _ _) fun y1 h => (sx 1 (ni (xi (si (si (oi (sx 2 (ni (xi ?_)))))))))))))))))))))))
 refine cd h (fun h => ?_) fun h => ?_
 refine si (oi (sx 1 (ni (xi (ri (tr ?_))))))
 injection h with h; subst h
 exact rp
 refine ki (xi (si (oi (sx 1 (cs h (OK_wToTokenS _) fun y2 h => (cs h (OK_sBegins _) fun y3 h => (sx 1 (ni (xi (si (oi (sx 1 (cs h (OK_wToTokenS _) fun y4 h => (sx 1 (ni (xi (si (oi (sx 1 (cs h (OK_iBegins _) fun y5 h => (sx 1 (ni (xi (si (si (oi (sx 3 (ni (xi ?_)))))))))))))))))))))))))))))
 refine cd h (fun h => ?_) fun h => ?_
 refine si (oi (sx 1 (ni (xi (ri (tr ?_))))))
 injection h with h; subst h
 exact rp
 refine ki (xi (si (si (oi (sx 2 (cs h (OK_wToTokenS _) fun y6 h => (cs h (OK_wEqTokenS _ _) fun y7 h => (sx 1 (ni (xi ?_))))))))))
 refine cd h (fun h => ?_) fun h => ?_
 refine si (oi (sx 1 (ni (xi (ri (tr ?_))))))
 injection h with h; subst h
 exact rp
 refine ki (xi (si (oi (sx 1 (ni (xi (ri ?_)))))))
 injection h with h; subst h
 exact rp
theorem law_wFnExactBegins (hp : ∀ (x0 : (List GToken)) (_ : (okL okGToken) x0), wFnExactBegins x0 = some true) (ls : List (List D)) (hw : WtA Tryz.prog [22] ls) (hok : ∀ l ∈ ls, ∀ x ∈ l, OkD x) : ACalls Tryz.prog 3 (argsV Tryz.prog [22] ls) [] fun x _ => x = .d (.b true) := by
  rcases hw with _ | ⟨h0, hw⟩
  cases hw
  obtain ⟨x0, rfl⟩ := de22 h0
  have a0 : argV Tryz.prog 22 ((cSl 3 cGToken) x0) = (.d (.sl 3 (x0.map cGToken))) := by kernel_rfl
  have k0 : ∀ d ∈ (cSl 3 cGToken) x0, OkD d := hok _ (by simp)
  simp only [argsV, a0]
  exact OK_wFnExactBegins x0 true (hp x0 (ko_l _ (fun y hy => koGToken y hy) k0))
end Go.Proofs.YtjmoiaegaicojaaGreatDoor
