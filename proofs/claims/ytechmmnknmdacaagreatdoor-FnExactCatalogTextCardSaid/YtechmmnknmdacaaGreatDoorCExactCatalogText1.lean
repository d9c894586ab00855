/- That the code computes these functions (printed by a program). -/
import Derived.Test.YtechmmnknmdacaaGreatDoorCExactCatalogText0
namespace Go.Proofs.YtechmmnknmdacaaGreatDoor
open Go Go.RowKit Go.Ab
theorem OKs_sL2Quote_J1 (p0 : (List UInt8)) (p1 : Int) : (∀ (x6 : Int) (x5_3 : (List Int)) (r : (List UInt8)), sL2Quote_J1 p0 p1 x6 x5_3 = some r → avc Tryz.prog acsL2Quote_J1 (qsL2Quote_4 r) (stsL2Quote_J1 p0 p1 x6 x5_3)) ∧ (∀ (x5 : (List Int)) (x6 : Int) (r : (List UInt8)), sL2Quote_L0 p0 p1 x5 x6 = some r → avc Tryz.prog acsL2Quote_L0 (qsL2Quote_1 r) (stsL2Quote_L0 p0 p1 x5 x6)) := by
 refine sL2Quote_J1.mutual_partial_correctness p0 p1 (fun x6 x5_3 r => avc Tryz.prog acsL2Quote_J1 (qsL2Quote_4 r) (stsL2Quote_J1 p0 p1 x6 x5_3)) (fun x5 x6 r => avc Tryz.prog acsL2Quote_L0 (qsL2Quote_1 r) (stsL2Quote_L0 p0 p1 x5 x6)) ?_ ?_
 · intro F_sL2Quote_L0 OK_sL2Quote_L0 x6 x5_3 r h
   delta acsL2Quote_J1
   refine oi ?_
   let a11 : St := (stsL2Quote_J1 p0 p1 x6 x5_3).p [(26, (vI x6)), (25, (vS p0)), (24, (.osl 5 5 1 (x5_3.map cU8)))]
   refine st 3 a11 (vs (fun (y : Int) => (.d (.i .u8 y))) h (fun y hy => vop_ix (b := p0) (k := .i64) hy (by kernel_rfl) (by kernel_rfl) (by kernel_rfl)) fun y6 h => (bsl_step (l := ([y6] : List Int)) (f := cU8) (g := cU8) (by kernel_rfl) (fun _ => rfl) (by kernel_rfl) ?_))
   refine app_step (t := 5) (l := x5_3) (m := ([y6] : List Int)) (f := cU8) (S' := fun y => ⟨[(29, (.osl 29 5 1 (y.map cU8))), (28, (.osl 28 5 1 (([y6] : List Int).map cU8))), (27, (.d (.i .u8 y6))), (26, (vI x6)), (25, (vS p0)), (24, (.d (.sl 1 (x5_3.map cU8)))), (0, (vS p0)), (1, (.d (.i .u8 p1))), (5, (.d (.sl 1 (x5_3.map cU8)))), (6, (vI x6))], []⟩) h (by kernel_rfl) (by kernel_rfl) (by kernel_rfl) (by kernel_rfl) (fun y => by kernel_rfl) ?_
   clear h; intro y7 h
   let a12 : St := ⟨[(5, (.osl 5 5 1 (y7.map cU8))), (29, (.d (.sl 1 (y7.map cU8)))), (28, (.osl 28 5 1 (([y6] : List Int).map cU8))), (27, (.d (.i .u8 y6))), (26, (vI x6)), (25, (vS p0)), (24, (.d (.sl 1 (x5_3.map cU8)))), (0, (vS p0)), (1, (.d (.i .u8 p1))), (5, (.d (.sl 1 (x5_3.map cU8)))), (6, (vI x6))], []⟩
   refine st 1 a12 (ni (bn (xi (oi ?_))))
   let a13 : St := a12.p [(6, (vI (IntKind.wrap .i64 (x6 + 1)))), (14, (vI (IntKind.wrap .i64 (x6 + 1)))), (13, (vI x6))]
   exact st 3 a13 (ni (loop_back (s' := stsL2Quote_L0 p0 p1 y7 (IntKind.wrap .i64 (x6 + 1))) (wr [(5, .old 5)] (es (es (eo 5 (es er_nil)))) br_nil) (OK_sL2Quote_L0 y7 (IntKind.wrap .i64 (x6 + 1)) _ h)))
 · intro F_sL2Quote_J1 OK_sL2Quote_J1 x5 x6 r h
   delta acsL2Quote_L0
   refine loop_unroll (si (so ?_))
   let a4 : St := (stsL2Quote_L0 p0 p1 x5 x6).p [(12, (vB (decide (x6 < (ln p0))))), (11, (vI (ln p0))), (10, (vS p0)), (9, (vI x6))]
   refine st 4 a4 (nx ?_)
   refine cd h (fun h => ?_) fun h => ?_
   refine ki (xi (si (bi (si (so ?_)))))
   let a5 : St := a4.p [(16, (vI x6)), (15, (vS p0))]
   refine st 2 a5 (vs (fun (y : Int) => (.d (.i .u8 y))) h (fun y hy => vop_ix (b := p0) (k := .i64) hy (by kernel_rfl) (by kernel_rfl) (by kernel_rfl)) fun y1 h => ?_)
   let a6 : St := a5.p [(19, (vB (decide (y1 = p1)))), (18, (.d (.i .u8 p1))), (17, (.d (.i .u8 y1)))]
   refine st 2 a6 (nx ?_)
   refine cd h (fun h => ?_) fun h => ?_
   refine oi ?_
   let a7 : St := a6.p [(21, (.d (.i .u8 p1))), (20, (.osl 5 5 1 (x5.map cU8)))]
   refine st 2 a7 (bsl_step (l := ([p1] : List Int)) (f := cU8) (g := cU8) (by kernel_rfl) (fun _ => rfl) (by kernel_rfl) ?_)
   refine app_step (t := 5) (l := x5) (m := ([p1] : List Int)) (f := cU8) (S' := fun y => ⟨[(23, (.osl 23 5 1 (y.map cU8))), (22, (.osl 22 5 1 (([p1] : List Int).map cU8))), (21, (.d (.i .u8 p1))), (20, (.d (.sl 1 (x5.map cU8)))), (19, (vB (decide (y1 = p1)))), (18, (.d (.i .u8 p1))), (17, (.d (.i .u8 y1))), (16, (vI x6)), (15, (vS p0)), (12, (vB (decide (x6 < (ln p0))))), (11, (vI (ln p0))), (10, (vS p0)), (9, (vI x6)), (0, (vS p0)), (1, (.d (.i .u8 p1))), (5, (.d (.sl 1 (x5.map cU8)))), (6, (vI x6))], []⟩) h (by kernel_rfl) (by kernel_rfl) (by kernel_rfl) (by kernel_rfl) (fun y => by kernel_rfl) ?_
   clear h; intro y2 h
   let a8 : St := ⟨[(5, (.osl 5 5 1 (y2.map cU8))), (23, (.d (.sl 1 (y2.map cU8)))), (22, (.osl 22 5 1 (([p1] : List Int).map cU8))), (21, (.d (.i .u8 p1))), (20, (.d (.sl 1 (x5.map cU8)))), (19, (vB (decide (y1 = p1)))), (18, (.d (.i .u8 p1))), (17, (.d (.i .u8 y1))), (16, (vI x6)), (15, (vS p0)), (12, (vB (decide (x6 < (ln p0))))), (11, (vI (ln p0))), (10, (vS p0)), (9, (vI x6)), (0, (vS p0)), (1, (.d (.i .u8 p1))), (5, (.d (.sl 1 (x5.map cU8)))), (6, (vI x6))], []⟩
   exact st 1 a8 (ni (next_step (s' := stsL2Quote_J1 p0 p1 x6 y2) (wr [(5, .old 5)] (es (es (eo 5 (es er_nil)))) br_nil) (OK_sL2Quote_J1 x6 y2 _ h)))
   exact ki (next_step (s' := stsL2Quote_J1 p0 p1 x6 x5) (wr [(5, .old 5)] (es (es (eo 5 (es er_nil)))) br_nil) (OK_sL2Quote_J1 x6 x5 _ h))
   refine ei (te (te (bh (xi (so ?_)))))
   let a9 : St := a4.p [(31, (.d (.i .u8 p1))), (30, (.osl 5 5 1 (x5.map cU8)))]
   refine st 2 a9 (bsl_step (l := ([p1] : List Int)) (f := cU8) (g := cU8) (by kernel_rfl) (fun _ => rfl) (by kernel_rfl) ?_)
   refine app_step (t := 5) (l := x5) (m := ([p1] : List Int)) (f := cU8) (S' := fun y => ⟨[(33, (.osl 33 5 1 (y.map cU8))), (32, (.osl 32 5 1 (([p1] : List Int).map cU8))), (31, (.d (.i .u8 p1))), (30, (.d (.sl 1 (x5.map cU8)))), (12, (vB (decide (x6 < (ln p0))))), (11, (vI (ln p0))), (10, (vS p0)), (9, (vI x6)), (0, (vS p0)), (1, (.d (.i .u8 p1))), (5, (.d (.sl 1 (x5.map cU8)))), (6, (vI x6))], []⟩) h (by kernel_rfl) (by kernel_rfl) (by kernel_rfl) (by kernel_rfl) (fun y => by kernel_rfl) ?_
   clear h; intro y4 h
   refine vs (fun (y : (List UInt8)) => (vS y)) h (fun y hy => vop_cbs (l := y4) hy (by kernel_rfl) (by kernel_rfl)) fun y5 h => ?_
   let a10 : St := ⟨[(4, (vS y5)), (34, (vS y5)), (33, (.osl 33 5 1 (y4.map cU8))), (32, (.osl 32 5 1 (([p1] : List Int).map cU8))), (31, (.d (.i .u8 p1))), (30, (.d (.sl 1 (x5.map cU8)))), (12, (vB (decide (x6 < (ln p0))))), (11, (vI (ln p0))), (10, (vS p0)), (9, (vI x6)), (0, (vS p0)), (1, (.d (.i .u8 p1))), (5, (.d (.sl 1 (x5.map cU8)))), (6, (vI x6))], []⟩
   refine st 1 a10 (nx (ri ?_))
   injection h with h; subst h
   exact r1 (v := (vS y5))
theorem OK_sL2Quote_J1 (p0 : (List UInt8)) (p1 : Int) (x6 : Int) (x5_3 : (List Int)) (r : (List UInt8)) (h : sL2Quote_J1 p0 p1 x6 x5_3 = some r) : avc Tryz.prog acsL2Quote_J1 (qsL2Quote_4 r) (stsL2Quote_J1 p0 p1 x6 x5_3) := (OKs_sL2Quote_J1 p0 p1).1 x6 x5_3 r h
theorem OK_sL2Quote_L0 (p0 : (List UInt8)) (p1 : Int) (x5 : (List Int)) (x6 : Int) (r : (List UInt8)) (h : sL2Quote_L0 p0 p1 x5 x6 = some r) : avc Tryz.prog acsL2Quote_L0 (qsL2Quote_1 r) (stsL2Quote_L0 p0 p1 x5 x6) := (OKs_sL2Quote_J1 p0 p1).2 x5 x6 r h
theorem OK_sL2Quote (p0 : (List UInt8)) (p1 : Int) : FOk Tryz.prog 133 [(vS p0), (.d (.i .u8 p1))] (fun y => (vS y)) (sL2Quote p0 p1) := by
 intro r h
 rw [sL2Quote] at h
 refine aof trsL2Quote ?_
 show avc Tryz.prog acsL2Quote (qsL2Quote _) ⟨[(0, (vS p0)), (1, (.d (.i .u8 p1)))], []⟩
 delta acsL2Quote
 refine so ?_
 let a0 : St := ⟨[(4, (vS [])), (0, (vS p0)), (1, (.d (.i .u8 p1)))], []⟩
 refine st 1 a0 (nx (so ?_))
 let a1 : St := a0.p [(7, (.d (.i .u8 p1)))]
 refine st 1 a1 (bsl_step (l := ([p1] : List Int)) (f := cU8) (g := cU8) (by kernel_rfl) (fun _ => rfl) (by kernel_rfl) ?_)
 let a2 : St := a1.p [(5, (.osl 5 5 1 (([p1] : List Int).map cU8))), (8, (.d (.sl 1 (([p1] : List Int).map cU8))))]
 refine st 1 a2 (nx (si (so ?_)))
 let a3 : St := a2.p [(6, (vI 0))]
 exact st 1 a3 (nx (bi (loop_go (s' := stsL2Quote_L0 p0 p1 ([p1] : List Int) 0) (wr [(5, .old 5)] (es (es (eo 5 (es er_nil)))) br_nil) (OK_sL2Quote_L0 p0 p1 ([p1] : List Int) 0 _ h))))
theorem OK_sFold_J2 (x3 : (List Int)) (r : (List UInt8)) (h : sFold_J2 x3 = some r) : avc Tryz.prog acsFold_J2 (qsFold r) (stsFold_J2 x3) := by
 rw [sFold_J2] at h
 delta acsFold_J2
 refine so ?_
 let a11 : St := (stsFold_J2 x3).p [(33, (.d (.sl 1 (x3.map cU8))))]
 refine st 1 a11 (vs (fun (y : (List UInt8)) => (vS y)) h (fun y hy => vop_cbs (l := x3) hy (by kernel_rfl) (by kernel_rfl)) fun y3 h => ?_)
 let a12 : St := a11.p [(2, (vS y3)), (34, (vS y3))]
 refine st 1 a12 (nx (ri ?_))
 injection h with h; subst h
 exact r1 (v := (vS y3))
theorem OKs_sFold_J1 : (∀ (x4 : Int) (b60052000_0 : (List Int)) (r : (List UInt8)), sFold_J1 x4 b60052000_0 = some r → avc Tryz.prog acsFold_J1 (qsFold_2 r) (stsFold_J1 x4 b60052000_0)) ∧ (∀ (x4 : Int) (b60013000_0 : (List Int)) (r : (List UInt8)), sFold_L0 x4 b60013000_0 = some r → avc Tryz.prog acsFold_L0 (qsFold_1 r) (stsFold_L0 x4 b60013000_0)) := by
 refine sFold_J1.mutual_partial_correctness (fun x4 b60052000_0 r => avc Tryz.prog acsFold_J1 (qsFold_2 r) (stsFold_J1 x4 b60052000_0)) (fun x4 b60013000_0 r => avc Tryz.prog acsFold_L0 (qsFold_1 r) (stsFold_L0 x4 b60013000_0)) ?_ ?_
 · intro F_sFold_L0 OK_sFold_L0 x4 b60052000_0 r h
   delta acsFold_J1
   refine oi ?_
   let a10 : St := (stsFold_J1 x4 b60052000_0).p [(4, (vI (IntKind.wrap .i64 (x4 + 1)))), (12, (vI (IntKind.wrap .i64 (x4 + 1)))), (11, (vI x4))]
   exact st 3 a10 (ni (loop_back (s' := stsFold_L0 (IntKind.wrap .i64 (x4 + 1)) b60052000_0) (tw [.rn [(60052000, 60013000)]] (wr [] (es (es er_nil)) (bs_ br_nil))) (OK_sFold_L0 (IntKind.wrap .i64 (x4 + 1)) b60052000_0 _ h)))
 · intro F_sFold_J1 OK_sFold_J1 x4 b60013000_0 r h
   delta acsFold_L0
   refine loop_unroll (si (so ?_))
   let a4 : St := (stsFold_L0 x4 b60013000_0).p [(8, (.tre 60013000)), (7, (vI x4))]
   refine st 2 a4 (ps (vI (ln b60013000_0)) (vop_lenT (n := 60013000) (l := b60013000_0.map cU8) (L := b60013000_0.length) (by kernel_rfl) (by kernel_rfl) (List.length_map ..)) ?_)
   let a5 : St := a4.p [(10, (vB (decide (x4 < (ln b60013000_0))))), (9, (vI (ln b60013000_0)))]
   refine st 1 a5 (nx ?_)
   refine cd h (fun h => ?_) fun h => ?_
   refine ki (xi (si (bi (so ?_))))
   let a6 : St := a5.p [(14, (vI x4)), (13, (.tre 60013000))]
   refine st 2 a6 (iat_step (n := 60013000) (k := .i64) (i := x4) (l := b60013000_0) (f := cU8) (g := cU8) [] (S' := fun y => ⟨(15, (.trp 60013000 1 (x4).toNat 0)) :: a6.env, [(60013000, [(.tro 1 (x4).toNat (b60013000_0.map cU8)), (.d (.i .u8 y))])]⟩) h (by kernel_rfl) (by kernel_rfl) (by kernel_rfl) (fun _ => rfl) (by kernel_rfl) (fun y => by kernel_rfl) ?_)
   clear h; intro y1 hiy1 h
   refine ps (.d (.i .u8 y1)) (vop_ldT (n := 60013000) (sz := 1) (i := (x4).toNat) (off := 0) (l := b60013000_0.map cU8) (c := [(.d (.i .u8 y1))]) (by kernel_rfl) (by kernel_rfl) (by kernel_rfl)) ?_
   let a7 : St := ⟨(18, (vB (decide (97 ≤ y1)))) :: (17, (vB (decide (97 ≤ y1)))) :: (16, (.d (.i .u8 y1))) :: (15, (.trp 60013000 1 (x4).toNat 0)) :: a6.env, [(60013000, [(.tro 1 (x4).toNat (b60013000_0.map cU8)), (.d (.i .u8 y1))])]⟩
   refine st 2 a7 (gp true (decide (97 ≤ y1)) (.tre 60013000) (fun hc => vl) (gp true (decide (97 ≤ y1)) (vI x4) (fun hc => vl) ?_))
   refine gp true (decide (97 ≤ y1)) (.trp 60013000 1 (x4).toNat 0) (fun hc => vop_iaO (n := 60013000) (k := .i64) (i := x4) (l := b60013000_0.map cU8) (c := [(.d (.i .u8 y1))]) (idx_get hiy1).1 (by kernel_rfl) (Eq.trans (b := ([(true && ((decide (97 ≤ y1)) == true)), (true && ((decide (97 ≤ y1)) == true))] : List Bool).all id) (by kernel_rfl) (all_c hc (all_c hc rfl))) (by kernel_rfl) (by kernel_rfl)) ?_
   refine gp true (decide (97 ≤ y1)) (.d (.i .u8 y1)) (fun hc => vop_ldTg (n := 60013000) (sz := 1) (i := (x4).toNat) (off := 0) (l := b60013000_0.map cU8) (c := [(.d (.i .u8 y1))]) (Eq.trans (b := ([(true && ((decide (97 ≤ y1)) == true))] : List Bool).all id) (by kernel_rfl) (all_c hc rfl)) (by kernel_rfl) (by kernel_rfl) (by kernel_rfl)) ?_
   refine gp true (decide (97 ≤ y1)) (vB (decide (y1 ≤ 122))) (fun hc => vg hc) (vs (fun (y : Bool) => (vB y)) h (fun y hy => vop_pickV hy (p := (true && ((decide (97 ≤ y1)) == true))) (q := true) (by kernel_rfl) (by kernel_rfl) (by kernel_rfl) (by kernel_rfl) (fun hb => gc_t rfl hb) (fun _ => rfl)) fun y2 h => (nx ?_))
   refine cd h (fun h => ?_) fun h => ?_
   refine oi ?_
   let a8 : St := a7.p [(28, (vI x4)), (27, (.tre 60013000)), (26, (vI x4)), (25, (.tre 60013000)), (24, (vB y2)), (23, (.ite (true && ((decide (97 ≤ y1)) == true)) (vB (decide (y1 ≤ 122))))), (22, (.ite (true && ((decide (97 ≤ y1)) == true)) (.d (.i .u8 y1)))), (21, (.ite (true && ((decide (97 ≤ y1)) == true)) (.trp 60013000 1 (x4).toNat 0))), (20, (.ite (true && ((decide (97 ≤ y1)) == true)) (vI x4))), (19, (.ite (true && ((decide (97 ≤ y1)) == true)) (.tre 60013000)))]
   refine st 4 a8 (iao_step (n := 60013000) (k := .i64) (i := x4) (l := b60013000_0.map cU8) (c := [(.d (.i .u8 y1))]) (by kernel_rfl) (by kernel_rfl) (idx_get hiy1).1 (by kernel_rfl) (ps (.d (.i .u8 y1)) (vop_ldT (n := 60013000) (sz := 1) (i := (x4).toNat) (off := 0) (l := b60013000_0.map cU8) (c := [(.d (.i .u8 y1))]) (by kernel_rfl) (by kernel_rfl) (by kernel_rfl)) ?_))
   let a9 : St := a8.p [(31, (.d (.i .u8 (IntKind.wrap .u8 (y1 - 32))))), (30, (.d (.i .u8 y1))), (29, (.trp 60013000 1 (x4).toNat 0))]
   refine st 1 a9 (iao_step (n := 60013000) (k := .i64) (i := x4) (l := b60013000_0.map cU8) (c := [(.d (.i .u8 y1))]) (by kernel_rfl) (by kernel_rfl) (idx_get hiy1).1 (by kernel_rfl) ?_)
   refine stt_step (n := 60013000) (sz := 1) (i := (x4).toNat) (off := 0) (l := b60013000_0.map cU8) (c := [(.d (.i .u8 y1))]) (s' := ⟨(32, (.trp 60013000 1 (x4).toNat 0)) :: a9.env, [(60013000, [(.tro 1 (x4).toNat (b60013000_0.map cU8)), (.d (.i .u8 (IntKind.wrap .u8 (y1 - 32))))])]⟩) (by kernel_rfl) (by kernel_rfl) (by kernel_rfl) (by kernel_rfl) (ni (bn ?_))
   exact next_step (s' := stsFold_J1 x4 (b60013000_0.set (x4).toNat (IntKind.wrap .u8 (y1 - 32)))) (tw [.clo 60013000, .rn [(60013000, 60052000)]] (wr [] (es (es er_nil)) (bt_ (R := (b60013000_0.set (x4).toNat (IntKind.wrap .u8 (y1 - 32))).map cU8) (set_map (l := b60013000_0) (k := (x4).toNat) (x := (IntKind.wrap .u8 (y1 - 32))) (fun _ => rfl)) br_nil))) (OK_sFold_J1 x4 (b60013000_0.set (x4).toNat (IntKind.wrap .u8 (y1 - 32))) _ h)
   exact ki (bn (next_step (s' := stsFold_J1 x4 (b60013000_0.set (x4).toNat y1)) (tw [.clo 60013000, .rn [(60013000, 60052000)]] (wr [] (es (es er_nil)) (bt_ (R := (b60013000_0.set (x4).toNat y1).map cU8) (set_map (l := b60013000_0) (k := (x4).toNat) (x := y1) (fun _ => rfl)) br_nil))) (OK_sFold_J1 x4 (b60013000_0.set (x4).toNat y1) _ h)))
   exact ei (te (te (bh (next_step (s' := stsFold_J2 b60013000_0) (tw [.frz [60013000]] (wr [] (es er_nil) br_nil)) (OK_sFold_J2 b60013000_0 _ h)))))
theorem OK_sFold_J1 (x4 : Int) (b60052000_0 : (List Int)) (r : (List UInt8)) (h : sFold_J1 x4 b60052000_0 = some r) : avc Tryz.prog acsFold_J1 (qsFold_2 r) (stsFold_J1 x4 b60052000_0) := (OKs_sFold_J1).1 x4 b60052000_0 r h
theorem OK_sFold_L0 (x4 : Int) (b60013000_0 : (List Int)) (r : (List UInt8)) (h : sFold_L0 x4 b60013000_0 = some r) : avc Tryz.prog acsFold_L0 (qsFold_1 r) (stsFold_L0 x4 b60013000_0) := (OKs_sFold_J1).2 x4 b60013000_0 r h
theorem OK_sFold (p0 : (List UInt8)) : FOk Tryz.prog 92 [(vS p0)] (fun y => (vS y)) (sFold p0) := by
 intro r h
 rw [sFold] at h
 refine aof trsFold ?_
 show avc Tryz.prog acsFold (qsFold _) ⟨[(0, (vS p0))], []⟩
 delta acsFold
 refine so ?_
 let a0 : St := ⟨[(2, (vS [])), (0, (vS p0))], []⟩
 refine st 1 a0 (nx (so ?_))
 let a1 : St := a0.p [(5, (vS p0))]
 refine st 1 a1 (csb_step (b := p0) (s' := ⟨(6, (.tre 6)) :: a1.env, [(6, [(.trc 1 ((toBytes p0).map cU8))])]⟩) (by kernel_rfl) (by kernel_rfl) (by kernel_rfl) ?_)
 let a2 : St := ⟨(3, (.tre 6)) :: (6, (.tre 6)) :: a1.env, [(6, [(.trc 1 ((toBytes p0).map cU8))])]⟩
 refine st 1 a2 (nx (si (so ?_)))
 let a3 : St := a2.p [(4, (vI 0))]
 exact st 1 a3 (nx (bi (loop_go (s' := stsFold_L0 0 (toBytes p0)) (tw [.rn [(6, 60013000)]] (wr [] (es (es er_nil)) (bs_ br_nil))) (OK_sFold_L0 0 (toBytes p0) _ h))))
theorem OKs_sKeyOf_L0 (y1 : (List UInt8)) (y2 : (List (List UInt8))) : (∀ (x5 : Int) (r : Int), sKeyOf_L0 y1 y2 x5 = some r → avc Tryz.prog acsKeyOf_L0 (qsKeyOf_1 r) (stsKeyOf_L0 y1 y2 x5)) := by
 refine sKeyOf_L0.partial_correctness y1 y2 (fun x5 r => avc Tryz.prog acsKeyOf_L0 (qsKeyOf_1 r) (stsKeyOf_L0 y1 y2 x5)) ?_
 · intro F_sKeyOf_L0 OK_sKeyOf_L0 x5 r h
   delta acsKeyOf_L0
   refine loop_unroll (si (so ?_))
   let a7 : St := (stsKeyOf_L0 y1 y2 x5).p [(13, (.osl 4 9 1 (y2.map cStr))), (12, (vI x5))]
   refine st 2 a7 (ps (vI (ln y2)) (vln (sz := 1) (l := y2) (f := cStr)) ?_)
   let a8 : St := a7.p [(15, (vB (decide (x5 < (ln y2))))), (14, (vI (ln y2)))]
   refine st 1 a8 (nx ?_)
   refine cd h (fun h => ?_) fun h => ?_
   refine ki (xi (si (bi (so ?_))))
   let a9 : St := a8.p [(19, (vI x5)), (18, (.osl 4 9 1 (y2.map cStr)))]
   refine st 2 a9 (vs (fun (y : (List UInt8)) => (.rp [(.s (bs y))])) h (fun y hy => via (l := y2) (f := cStr) (g := cStr) (k := .i64) hy (fun _ => rfl)) fun y3 h => ?_)
   let a10 : St := a9.p [(23, (vB (decide (y3 = y1)))), (22, (vS y1)), (21, (vS y3)), (20, (.rp [(.s (bs y3))]))]
   refine st 3 a10 (nx ?_)
   refine cd h (fun h => ?_) fun h => ?_
   refine so ?_
   let a11 : St := a10.p [(2, (vI x5)), (24, (vI x5))]
   refine st 2 a11 (nx (ri (br (tr (tr (br (tr ?_)))))))
   injection h with h; subst h
   exact r1 (v := (vI x5))
   refine ki (bn (xi (oi ?_)))
   let a12 : St := a10.p [(5, (vI (IntKind.wrap .i64 (x5 + 1)))), (17, (vI (IntKind.wrap .i64 (x5 + 1)))), (16, (vI x5))]
   exact st 3 a12 (ni (loop_back (s' := stsKeyOf_L0 y1 y2 (IntKind.wrap .i64 (x5 + 1))) (wr [(4, .old 4)] (es (eo 4 (es er_nil))) br_nil) (OK_sKeyOf_L0 (IntKind.wrap .i64 (x5 + 1)) _ h)))
   refine ei (te (te (bh (xi (so ?_)))))
   let a13 : St := a8.p [(2, (vI 0))]
   refine st 1 a13 (nx (ri ?_))
   injection h with h; subst h
   exact r1 (v := (vI 0))
theorem OK_sKeyOf_L0 (y1 : (List UInt8)) (y2 : (List (List UInt8))) (x5 : Int) (r : Int) (h : sKeyOf_L0 y1 y2 x5 = some r) : avc Tryz.prog acsKeyOf_L0 (qsKeyOf_1 r) (stsKeyOf_L0 y1 y2 x5) := (OKs_sKeyOf_L0 y1 y2) x5 r h
theorem OK_sL2Words : FOkB Tryz.prog 127 [] [] (fun (y : (List (List UInt8))) => (.osl 2000000 9 1 (y.map cStr))) (fun (y : (List (List UInt8))) => []) (sL2Words) := by
 intro r h
 rw [sL2Words] at h
 refine aof trsL2Words ?_
 show avc Tryz.prog acsL2Words (qsL2Words _) ⟨[], []⟩
 delta acsL2Words
 refine so ?_
 let a0 : St := ⟨[(0, (.nil 1))], []⟩
 refine st 1 a0 (nx (so ?_))
 refine bsl_step (l := ([[], [83, 69, 76, 69, 67, 84], [68, 73, 83, 84, 73, 78, 67, 84], [70, 82, 79, 77], [74, 79, 73, 78], [79, 78], [87, 72, 69, 82, 69], [79, 82, 68, 69, 82], [66, 89], [65, 83, 67], [68, 69, 83, 67], [76, 73, 77, 73, 84], [65, 83], [65, 78, 68], [79, 82], [78, 79, 84], [73, 83], [73, 78], [66, 69, 84, 87, 69, 69, 78], [69, 88, 73, 83, 84, 83], [78, 85, 76, 76], [84, 82, 85, 69], [70, 65, 76, 83, 69], [73, 78, 83, 69, 82, 84], [73, 78, 84, 79], [86, 65, 76, 85, 69, 83], [85, 80, 68, 65, 84, 69], [83, 69, 84], [68, 69, 76, 69, 84, 69]] : List (List UInt8))) (f := cStr) (g := cStr) (by kernel_rfl) (fun _ => rfl) (by kernel_rfl) ?_
 let a1 : St := a0.p [(0, (.osl 0 9 1 (([[], [83, 69, 76, 69, 67, 84], [68, 73, 83, 84, 73, 78, 67, 84], [70, 82, 79, 77], [74, 79, 73, 78], [79, 78], [87, 72, 69, 82, 69], [79, 82, 68, 69, 82], [66, 89], [65, 83, 67], [68, 69, 83, 67], [76, 73, 77, 73, 84], [65, 83], [65, 78, 68], [79, 82], [78, 79, 84], [73, 83], [73, 78], [66, 69, 84, 87, 69, 69, 78], [69, 88, 73, 83, 84, 83], [78, 85, 76, 76], [84, 82, 85, 69], [70, 65, 76, 83, 69], [73, 78, 83, 69, 82, 84], [73, 78, 84, 79], [86, 65, 76, 85, 69, 83], [85, 80, 68, 65, 84, 69], [83, 69, 84], [68, 69, 76, 69, 84, 69]] : List (List UInt8)).map cStr))), (1, (.d (.sl 1 (([[], [83, 69, 76, 69, 67, 84], [68, 73, 83, 84, 73, 78, 67, 84], [70, 82, 79, 77], [74, 79, 73, 78], [79, 78], [87, 72, 69, 82, 69], [79, 82, 68, 69, 82], [66, 89], [65, 83, 67], [68, 69, 83, 67], [76, 73, 77, 73, 84], [65, 83], [65, 78, 68], [79, 82], [78, 79, 84], [73, 83], [73, 78], [66, 69, 84, 87, 69, 69, 78], [69, 88, 73, 83, 84, 83], [78, 85, 76, 76], [84, 82, 85, 69], [70, 65, 76, 83, 69], [73, 78, 83, 69, 82, 84], [73, 78, 84, 79], [86, 65, 76, 85, 69, 83], [85, 80, 68, 65, 84, 69], [83, 69, 84], [68, 69, 76, 69, 84, 69]] : List (List UInt8)).map cStr))))]
 refine st 1 a1 (nx ?_)
 refine ret_wk (s' := ⟨[(0, (.osl 2000000 9 1 (([[], [83, 69, 76, 69, 67, 84], [68, 73, 83, 84, 73, 78, 67, 84], [70, 82, 79, 77], [74, 79, 73, 78], [79, 78], [87, 72, 69, 82, 69], [79, 82, 68, 69, 82], [66, 89], [65, 83, 67], [68, 69, 83, 67], [76, 73, 77, 73, 84], [65, 83], [65, 78, 68], [79, 82], [78, 79, 84], [73, 83], [73, 78], [66, 69, 84, 87, 69, 69, 78], [69, 88, 73, 83, 84, 83], [78, 85, 76, 76], [84, 82, 85, 69], [70, 65, 76, 83, 69], [73, 78, 83, 69, 82, 84], [73, 78, 84, 79], [86, 65, 76, 85, 69, 83], [85, 80, 68, 65, 84, 69], [83, 69, 84], [68, 69, 76, 69, 84, 69]] : List (List UInt8)).map cStr)))], []⟩) (wr [(2000000, .old 0)] (eo 0 er_nil) br_nil) ?_
 injection h with h; subst h
 exact ret1_step (v := (.osl 2000000 9 1 (([[], [83, 69, 76, 69, 67, 84], [68, 73, 83, 84, 73, 78, 67, 84], [70, 82, 79, 77], [74, 79, 73, 78], [79, 78], [87, 72, 69, 82, 69], [79, 82, 68, 69, 82], [66, 89], [65, 83, 67], [68, 69, 83, 67], [76, 73, 77, 73, 84], [65, 83], [65, 78, 68], [79, 82], [78, 79, 84], [73, 83], [73, 78], [66, 69, 84, 87, 69, 69, 78], [69, 88, 73, 83, 84, 83], [78, 85, 76, 76], [84, 82, 85, 69], [70, 65, 76, 83, 69], [73, 78, 83, 69, 82, 84], [73, 78, 84, 79], [86, 65, 76, 85, 69, 83], [85, 80, 68, 65, 84, 69], [83, 69, 84], [68, 69, 76, 69, 84, 69]] : List (List UInt8)).map cStr))) (by kernel_rfl) (by kernel_rfl) ⟨by kernel_rfl, trivial⟩
theorem OK_sKeyOf (p0 : (List UInt8)) : FOk Tryz.prog 93 [(vS p0)] (fun y => (vI y)) (sKeyOf p0) := by
 intro r h
 rw [sKeyOf] at h
 refine aof trsKeyOf ?_
 show avc Tryz.prog acsKeyOf (qsKeyOf _) ⟨[(0, (vS p0))], []⟩
 delta acsKeyOf
 refine so ?_
 let a0 : St := ⟨[(2, (vI 0)), (0, (vS p0))], []⟩
 refine st 1 a0 (nx (si (so ?_)))
 let a1 : St := a0.p [(8, (vB (decide (8 < (ln p0))))), (7, (vI (ln p0))), (6, (vS p0))]
 refine st 3 a1 (nx ?_)
 refine cd h (fun h => ?_) fun h => ?_
 refine so ?_
 let a2 : St := a1.p [(2, (vI 0))]
 refine st 1 a2 (nx (ri (tr ?_)))
 injection h with h; subst h
 exact r1 (v := (vI 0))
 refine ki (xi (so ?_))
 let a3 : St := a1.p [(9, (vS p0))]
 refine st 1 a3 (cs h (OK_sFold p0) fun y1 h => ?_)
 let a4 : St := a3.p [(3, (vS y1)), (10, (vS y1))]
 refine st 1 a4 (nx (so (callg_step ⟨[], [], [], [], [], [(2000000, 11)], [], [11], []⟩ (m := sL2Words) (S' := fun (y : (List (List UInt8))) => ⟨(11, (.osl 11 9 1 (y.map cStr))) :: a4.env, a4.bx⟩) h (OK_sL2Words) (by kernel_rfl) (by kernel_rfl) (by kernel_rfl) (by kernel_rfl) (fun y => by kernel_rfl) (fun y => by kernel_rfl) ?_)))
 clear h; intro y2 h
 let a5 : St := a4.p [(4, (.osl 4 9 1 (y2.map cStr))), (11, (.d (.sl 1 (y2.map cStr))))]
 refine st 1 a5 (nx (si (so ?_)))
 let a6 : St := a5.p [(5, (vI 1))]
 exact st 1 a6 (nx (bi (loop_go (s' := stsKeyOf_L0 y1 y2 1) (wr [(4, .old 4)] (es (eo 4 (es er_nil))) br_nil) (OK_sKeyOf_L0 y1 y2 1 _ h))))
theorem OK_sL2Figure (p0 : Int) : FOk Tryz.prog 118 [(.d (.i .u8 p0))] (fun y => (vB y)) (sL2Figure p0) := by
 intro r h
 rw [sL2Figure] at h
 refine aof trsL2Figure ?_
 show avc Tryz.prog acsL2Figure (qsL2Figure _) ⟨[(0, (.d (.i .u8 p0)))], []⟩
 delta acsL2Figure
 refine so ?_
 let a0 : St := ⟨[(2, (vB false)), (0, (.d (.i .u8 p0)))], []⟩
 refine st 1 a0 (nx (so ?_))
 let a1 : St := a0.p [(5, (vB (decide (48 ≤ p0)))), (4, (vB (decide (48 ≤ p0)))), (3, (.d (.i .u8 p0)))]
 refine st 3 a1 (gp true (decide (48 ≤ p0)) (.d (.i .u8 p0)) (fun hc => vl) (gp true (decide (48 ≤ p0)) (vB (decide (p0 ≤ 57))) (fun hc => vg hc) (vs (fun (y : Bool) => (vB y)) h (fun y hy => vop_pickV hy (p := (true && ((decide (48 ≤ p0)) == true))) (q := true) (by kernel_rfl) (by kernel_rfl) (by kernel_rfl) (by kernel_rfl) (fun hb => gc_t rfl hb) (fun _ => rfl)) fun y1 h => ?_)))
 let a2 : St := a1.p [(2, (vB y1)), (8, (vB y1)), (7, (.ite (true && ((decide (48 ≤ p0)) == true)) (vB (decide (p0 ≤ 57))))), (6, (.ite (true && ((decide (48 ≤ p0)) == true)) (.d (.i .u8 p0))))]
 refine st 1 a2 (nx (ri ?_))
 injection h with h; subst h
 exact r1 (v := (vB y1))
theorem OK_sL2Letter (p0 : Int) : FOk Tryz.prog 116 [(.d (.i .u8 p0))] (fun y => (vB y)) (sL2Letter p0) := by
 intro r h
 rw [sL2Letter] at h
 refine aof trsL2Letter ?_
 show avc Tryz.prog acsL2Letter (qsL2Letter _) ⟨[(0, (.d (.i .u8 p0)))], []⟩
 delta acsL2Letter
 refine so ?_
 let a0 : St := ⟨[(2, (vB false)), (0, (.d (.i .u8 p0)))], []⟩
 refine st 1 a0 (nx (so ?_))
 let a1 : St := a0.p [(5, (vB (decide (97 ≤ p0)))), (4, (vB (decide (97 ≤ p0)))), (3, (.d (.i .u8 p0)))]
 refine st 3 a1 (gp true (decide (97 ≤ p0)) (.d (.i .u8 p0)) (fun hc => vl) (gp true (decide (97 ≤ p0)) (vB (decide (p0 ≤ 122))) (fun hc => vg hc) (vs (fun (y : Bool) => (vB y)) h (fun y hy => vop_pickV hy (p := (true && ((decide (97 ≤ p0)) == true))) (q := true) (by kernel_rfl) (by kernel_rfl) (by kernel_rfl) (by kernel_rfl) (fun hb => gc_t rfl hb) (fun _ => rfl)) fun y1 h => ?_)))
 let a2 : St := a1.p [(9, (vB y1)), (8, (vB y1)), (7, (.ite (true && ((decide (97 ≤ p0)) == true)) (vB (decide (p0 ≤ 122))))), (6, (.ite (true && ((decide (97 ≤ p0)) == true)) (.d (.i .u8 p0))))]
 refine st 1 a2 (gp true y1 (.d (.i .u8 p0)) (fun hc => vl) (gp true y1 (vB (decide (65 ≤ p0))) (fun hc => vg hc) (gp true y1 (vB (decide (65 ≤ p0))) (fun hc => vg hc) (gp (true && (y1 == false)) (decide (65 ≤ p0)) (.d (.i .u8 p0)) (fun hc => vl) (gp (true && (y1 == false)) (decide (65 ≤ p0)) (vB (decide (p0 ≤ 90))) (fun hc => vg hc) ?_)))))
 refine gv true y1 (fun (y : Bool) => (vB y)) h (fun y hy hc => vop_pickV hy (p := ((true && (y1 == false)) && ((decide (65 ≤ p0)) == true))) (q := true) (Eq.trans (b := ([(true && (y1 == false))] : List Bool).all id) (by kernel_rfl) (all_c hc rfl)) (by kernel_rfl) (by kernel_rfl) (by kernel_rfl) (fun hb => gc_t hc hb) (fun _ => rfl)) fun y2 h => ?_
 refine vs (fun (y : Bool) => (vB y)) h (fun y hy => vop_pickV hy (p := true) (q := (true && (y1 == false))) (by kernel_rfl) (by kernel_rfl) (by kernel_rfl) (by kernel_rfl) (fun _ => rfl) (fun hb => gc_f rfl hb)) fun y3 h => ?_
 let a3 : St := a2.p [(17, (vB y3)), (16, (vB y3)), (15, (.ite (gF y1) (vB y2))), (14, (.ite ((gF y1) && ((decide (65 ≤ p0)) == true)) (vB (decide (p0 ≤ 90))))), (13, (.ite ((gF y1) && ((decide (65 ≤ p0)) == true)) (.d (.i .u8 p0)))), (12, (.ite (gF y1) (vB (decide (65 ≤ p0))))), (11, (.ite (gF y1) (vB (decide (65 ≤ p0))))), (10, (.ite (gF y1) (.d (.i .u8 p0))))]
 refine st 1 a3 (gp true y3 (.d (.i .u8 p0)) (fun hc => vl) (gp true y3 (vB (decide (p0 = 95))) (fun hc => vg hc) (vs (fun (y : Bool) => (vB y)) h (fun y hy => vop_pickV hy (p := true) (q := (true && (y3 == false))) (by kernel_rfl) (by kernel_rfl) (by kernel_rfl) (by kernel_rfl) (fun _ => rfl) (fun hb => gc_f rfl hb)) fun y4 h => ?_)))
 let a4 : St := a3.p [(2, (vB y4)), (20, (vB y4)), (19, (.ite (gF y3) (vB (decide (p0 = 95))))), (18, (.ite (gF y3) (.d (.i .u8 p0))))]
 refine st 1 a4 (nx (ri ?_))
 injection h with h; subst h
 exact r1 (v := (vB y4))
theorem OKs_sPlainName_L0 (p0 : (List UInt8)) : (∀ (x3 : Int) (r : Bool), sPlainName_L0 p0 x3 = some r → avc Tryz.prog acsPlainName_L0 (qsPlainName_1 r) (stsPlainName_L0 p0 x3)) := by
 refine sPlainName_L0.partial_correctness p0 (fun x3 r => avc Tryz.prog acsPlainName_L0 (qsPlainName_1 r) (stsPlainName_L0 p0 x3)) ?_
 · intro F_sPlainName_L0 OK_sPlainName_L0 x3 r h
   delta acsPlainName_L0
   refine loop_unroll (si (so ?_))
   let a6 : St := (stsPlainName_L0 p0 x3).p [(20, (vB (decide (x3 < (ln p0))))), (19, (vI (ln p0))), (18, (vS p0)), (17, (vI x3))]
   refine st 4 a6 (nx ?_)
   refine cd h (fun h => ?_) fun h => ?_
   refine ki (xi (si (bi (so ?_))))
   let a7 : St := a6.p [(24, (vI x3)), (23, (vS p0))]
   refine st 2 a7 (vs (fun (y : Int) => (.d (.i .u8 y))) h (fun y hy => vop_ix (b := p0) (k := .i64) hy (by kernel_rfl) (by kernel_rfl) (by kernel_rfl)) fun y7 h => (cs h (OK_sL2Letter y7) fun y8 h => ?_))
   let a8 : St := a7.p [(28, (vB (!y8))), (27, (vB (!y8))), (26, (vB y8)), (25, (.d (.i .u8 y7)))]
   refine st 2 a8 (gp true (!y8) (vS p0) (fun hc => vl) (gp true (!y8) (vI x3) (fun hc => vl) (gv true (!y8) (fun (y : Int) => (.d (.i .u8 y))) h (fun y hy hc => vop_ix (b := p0) (k := .i64) hy (Eq.trans (b := ([(true && ((!y8) == true)), (true && ((!y8) == true))] : List Bool).all id) (by kernel_rfl) (all_c hc (all_c hc rfl))) (by kernel_rfl) (by kernel_rfl)) fun y9 h => ?_)))
   refine gcall_step (p := true) (b := (!y8)) (m := sL2Figure y9) (dflt := default) (args := [(.d (.i .u8 y9))]) (v' := (fun y => (vB y))) h (by kernel_rfl) (OK_sL2Figure y9) (fun hc => by kernel_rfl) (by kernel_rfl) (fun _ => rfl) (fun hc => (Eq.trans (b := ([(true && ((!y8) == true))] : List Bool).all id) (by kernel_rfl) (all_c hc rfl))) ?_
   clear h; intro y10 h
   refine gp true (!y8) (vB (!y10)) (fun hc => vg hc) (vs (fun (y : Bool) => (vB y)) h (fun y hy => vop_pickV hy (p := (true && ((!y8) == true))) (q := true) (by kernel_rfl) (by kernel_rfl) (by kernel_rfl) (by kernel_rfl) (fun hb => gc_t rfl hb) (fun _ => rfl)) fun y11 h => (nx ?_))
   refine cd h (fun h => ?_) fun h => ?_
   refine so ?_
   let a9 : St := a8.p [(2, (vB false)), (34, (vB y11)), (33, (.ite (true && ((!y8) == true)) (vB (!y10)))), (32, (.ite (true && ((!y8) == true)) (vB y10))), (31, (.ite (true && ((!y8) == true)) (.d (.i .u8 y9)))), (30, (.ite (true && ((!y8) == true)) (vI x3))), (29, (.ite (true && ((!y8) == true)) (vS p0)))]
   refine st 1 a9 (nx (ri (br (tr (tr (br (tr ?_)))))))
   injection h with h; subst h
   exact r1 (v := (vB false))
   refine ki (bn (xi (oi ?_)))
   let a10 : St := a8.p [(3, (vI (IntKind.wrap .i64 (x3 + 1)))), (22, (vI (IntKind.wrap .i64 (x3 + 1)))), (21, (vI x3)), (34, (vB y11)), (33, (.ite (true && ((!y8) == true)) (vB (!y10)))), (32, (.ite (true && ((!y8) == true)) (vB y10))), (31, (.ite (true && ((!y8) == true)) (.d (.i .u8 y9)))), (30, (.ite (true && ((!y8) == true)) (vI x3))), (29, (.ite (true && ((!y8) == true)) (vS p0)))]
   exact st 3 a10 (ni (loop_back (s' := stsPlainName_L0 p0 (IntKind.wrap .i64 (x3 + 1))) (wr [] (es (es er_nil)) br_nil) (OK_sPlainName_L0 (IntKind.wrap .i64 (x3 + 1)) _ h)))
   refine ei (te (te (bh (xi (so ?_)))))
   let a11 : St := a6.p [(2, (vB true))]
   refine st 1 a11 (nx (ri ?_))
   injection h with h; subst h
   exact r1 (v := (vB true))
theorem OK_sPlainName_L0 (p0 : (List UInt8)) (x3 : Int) (r : Bool) (h : sPlainName_L0 p0 x3 = some r) : avc Tryz.prog acsPlainName_L0 (qsPlainName_1 r) (stsPlainName_L0 p0 x3) := (OKs_sPlainName_L0 p0) x3 r h
theorem OK_sPlainName (p0 : (List UInt8)) : FOk Tryz.prog 132 [(vS p0)] (fun y => (vB y)) (sPlainName p0) := by
 intro r h
 rw [sPlainName] at h
 refine aof trsPlainName ?_
 show avc Tryz.prog acsPlainName (qsPlainName _) ⟨[(0, (vS p0))], []⟩
 delta acsPlainName
 refine so ?_
 let a0 : St := ⟨[(2, (vB false)), (0, (vS p0))], []⟩
 refine st 1 a0 (nx (si (so ?_)))
 let a1 : St := a0.p [(4, (vS p0))]
 refine st 1 a1 (cs h (OK_sNameOk p0) fun y1 h => ?_)
 let a2 : St := a1.p [(7, (vB (!y1))), (6, (vB (!y1))), (5, (vB y1))]
 refine st 2 a2 (gp true (!y1) (vS p0) (fun hc => vl) (gv true (!y1) (fun (y : Int) => (.d (.i .u8 y))) h (fun y hy hc => vop_ix (b := p0) (k := .i64) hy (Eq.trans (b := ([(true && ((!y1) == false))] : List Bool).all id) (by kernel_rfl) (all_c hc rfl)) (by kernel_rfl) (by kernel_rfl)) fun y2 h => ?_))
 refine gcall_step (p := true) (b := (!y1)) (m := sL2Figure y2) (dflt := default) (args := [(.d (.i .u8 y2))]) (v' := (fun y => (vB y))) h (by kernel_rfl) (OK_sL2Figure y2) (fun hc => by kernel_rfl) (by kernel_rfl) (fun _ => rfl) (fun hc => (Eq.trans (b := ([(true && ((!y1) == false))] : List Bool).all id) (by kernel_rfl) (all_c hc rfl))) ?_
 clear h; intro y3 h
 refine vs (fun (y : Bool) => (vB y)) h (fun y hy => vop_pickV hy (p := true) (q := (true && ((!y1) == false))) (by kernel_rfl) (by kernel_rfl) (by kernel_rfl) (by kernel_rfl) (fun _ => rfl) (fun hb => gc_f rfl hb)) fun y4 h => ?_
 let a3 : St := a2.p [(12, (vB y4)), (11, (vB y4)), (10, (.ite (true && ((!y1) == false)) (vB y3))), (9, (.ite (true && ((!y1) == false)) (.d (.i .u8 y2)))), (8, (.ite (true && ((!y1) == false)) (vS p0)))]
 refine st 1 a3 (gp true y4 (vS p0) (fun hc => vl) (gcall_step (p := true) (b := y4) (m := sKeyOf p0) (dflt := default) (args := [(vS p0)]) (v' := (fun y => (vI y))) h (by kernel_rfl) (OK_sKeyOf p0) (fun hc => by kernel_rfl) (by kernel_rfl) (fun _ => rfl) (fun hc => (Eq.trans (b := ([(true && (y4 == false))] : List Bool).all id) (by kernel_rfl) (all_c hc rfl))) ?_))
 clear h; intro y5 h
 refine gp true y4 (vB (decide (0 < y5))) (fun hc => vg hc) (vs (fun (y : Bool) => (vB y)) h (fun y hy => vop_pickV hy (p := true) (q := (true && (y4 == false))) (by kernel_rfl) (by kernel_rfl) (by kernel_rfl) (by kernel_rfl) (fun _ => rfl) (fun hb => gc_f rfl hb)) fun y6 h => (nx ?_))
 refine cd h (fun h => ?_) fun h => ?_
 refine so ?_
 let a4 : St := a3.p [(2, (vB false)), (16, (vB y6)), (15, (.ite (gF y4) (vB (decide (0 < y5))))), (14, (.ite (gF y4) (vI y5))), (13, (.ite (gF y4) (vS p0)))]
 refine st 1 a4 (nx (ri (tr ?_)))
 injection h with h; subst h
 exact r1 (v := (vB false))
 refine ki (xi (si (so ?_)))
 let a5 : St := a3.p [(3, (vI 0)), (16, (vB y6)), (15, (.ite (gF y4) (vB (decide (0 < y5))))), (14, (.ite (gF y4) (vI y5))), (13, (.ite (gF y4) (vS p0)))]
 exact st 1 a5 (nx (bi (loop_go (s' := stsPlainName_L0 p0 0) (wr [] (es (es er_nil)) br_nil) (OK_sPlainName_L0 p0 0 _ h))))
theorem OK_sNameText (p0 : (List UInt8)) : FOk Tryz.prog 98 [(vS p0)] (fun y => (vS y)) (sNameText p0) := by
 intro r h
 rw [sNameText] at h
 refine aof trsNameText ?_
 show avc Tryz.prog acsNameText (qsNameText _) ⟨[(0, (vS p0))], []⟩
 delta acsNameText
 refine so ?_
 let a0 : St := ⟨[(2, (vS [])), (0, (vS p0))], []⟩
 refine st 1 a0 (nx (si (so ?_)))
 let a1 : St := a0.p [(3, (vS p0))]
 refine st 1 a1 (cs h (OK_sNameOk p0) fun y1 h => ?_)
 let a2 : St := a1.p [(5, (vB (!y1))), (4, (vB y1))]
 refine st 1 a2 (nx ?_)
 refine cd h (fun h => ?_) fun h => ?_
 refine so ?_
 let a3 : St := a2.p [(2, (vS []))]
 refine st 1 a3 (nx (ri (tr ?_)))
 injection h with h; subst h
 exact r1 (v := (vS []))
 refine ki (xi (si (so ?_)))
 let a4 : St := a2.p [(6, (vS p0))]
 refine st 1 a4 (cs h (OK_sPlainName p0) fun y2 h => (nx ?_))
 refine cd h (fun h => ?_) fun h => ?_
 refine so ?_
 let a5 : St := a4.p [(2, (vS p0)), (8, (vS p0)), (7, (vB y2))]
 refine st 2 a5 (nx (ri (tr ?_)))
 injection h with h; subst h
 exact r1 (v := (vS p0))
 refine ki (xi (so ?_))
 let a6 : St := a4.p [(9, (vS p0)), (7, (vB y2))]
 refine st 1 a6 (cs h (OK_sL2Quote p0 34) fun y3 h => ?_)
 let a7 : St := a6.p [(2, (vS y3)), (10, (vS y3))]
 refine st 1 a7 (nx (ri ?_))
 injection h with h; subst h
 exact r1 (v := (vS y3))
theorem OK_sQuoteText (p0 : (List UInt8)) : FOk Tryz.prog 99 [(vS p0)] (fun y => (vS y)) (sQuoteText p0) := by
 intro r h
 rw [sQuoteText] at h
 refine aof trsQuoteText ?_
 show avc Tryz.prog acsQuoteText (qsQuoteText _) ⟨[(0, (vS p0))], []⟩
 delta acsQuoteText
 refine so ?_
 let a0 : St := ⟨[(2, (vS [])), (0, (vS p0))], []⟩
 refine st 1 a0 (nx (so ?_))
 let a1 : St := a0.p [(3, (vS p0))]
 refine st 1 a1 (cs h (OK_sL2Quote p0 39) fun y1 h => ?_)
 let a2 : St := a1.p [(2, (vS y1)), (4, (vS y1))]
 refine st 1 a2 (nx (ri ?_))
 injection h with h; subst h
 exact r1 (v := (vS y1))
theorem OKs_sDigits_J1 (p0 : Int) : (∀ (x0 : Int) (x4 : (List UInt8)) (x5 : Int) (r : (List UInt8)), sDigits_J1 x0 p0 x4 x5 = some r → avc Tryz.prog acsDigits_J1 (qsDigits_3 r) (stsDigits_J1 x0 p0 x4 x5)) ∧ (∀ (x0 : Int) (x4 : (List UInt8)) (r : (List UInt8)), sDigits_L0 p0 x0 x4 = some r → avc Tryz.prog acsDigits_L0 (qsDigits_1 r) (stsDigits_L0 p0 x0 x4)) := by
 refine sDigits_J1.mutual_partial_correctness p0 (fun x0 x4 x5 r => avc Tryz.prog acsDigits_J1 (qsDigits_3 r) (stsDigits_J1 x0 p0 x4 x5)) (fun x0 x4 r => avc Tryz.prog acsDigits_L0 (qsDigits_1 r) (stsDigits_L0 p0 x0 x4)) ?_ ?_
 · intro F_sDigits_L0 OK_sDigits_L0 x0 x4 x5 r h
   delta acsDigits_J1
   refine so ?_
   let a13 : St := (stsDigits_J1 x0 p0 x4 x5).p [(20, (.d (.i .u8 (IntKind.wrap .u8 (IntKind.wrap .i64 (48 + x5)))))), (19, (vI (IntKind.wrap .i64 (48 + x5)))), (18, (vI x5))]
   refine st 3 a13 (bsl_step (l := ([(IntKind.wrap .u8 (IntKind.wrap .i64 (48 + x5)))] : List Int)) (f := cU8) (g := cU8) (by kernel_rfl) (fun _ => rfl) (by kernel_rfl) (vs (fun (y : (List UInt8)) => (vS y)) h (fun y hy => vop_cbs (l := ([(IntKind.wrap .u8 (IntKind.wrap .i64 (48 + x5)))] : List Int)) hy (by kernel_rfl) (by kernel_rfl)) fun y2 h => ?_))
   let a14 : St := a13.p [(23, (vS x4)), (22, (vS y2)), (21, (.osl 21 5 1 (([(IntKind.wrap .u8 (IntKind.wrap .i64 (48 + x5)))] : List Int).map cU8)))]
   refine st 1 a14 (vs (fun (y : (List UInt8)) => (vS y)) h (fun y hy => vop_cat (a := y2) (b := x4) hy (by kernel_rfl) (by kernel_rfl) (by kernel_rfl)) fun y3 h => ?_)
   let a15 : St := a14.p [(4, (vS y3)), (24, (vS y3))]
   refine st 1 a15 (nx (oi ?_))
   let a16 : St := a15.p [(0, (vI (IntKind.wrap .i64 (Int.tdiv x0 10)))), (26, (vI (IntKind.wrap .i64 (Int.tdiv x0 10)))), (25, (vI x0))]
   exact st 3 a16 (ni (bn (loop_back (s' := stsDigits_L0 p0 (IntKind.wrap .i64 (Int.tdiv x0 10)) y3) (wr [] (es (es (es er_nil))) br_nil) (OK_sDigits_L0 (IntKind.wrap .i64 (Int.tdiv x0 10)) y3 _ h))))
 · intro F_sDigits_J1 OK_sDigits_J1 x0 x4 r h
   delta acsDigits_L0
   refine loop_unroll (si (so ?_))
   let a5 : St := (stsDigits_L0 p0 x0 x4).p [(11, (vB (!decide (x0 = 0)))), (10, (vI x0))]
   refine st 2 a5 (nx ?_)
   refine cd h (fun h => ?_) fun h => ?_
   refine ki (xi (bi (so ?_)))
   let a6 : St := a5.p [(5, (vI (Int.tmod x0 10))), (13, (vI (Int.tmod x0 10))), (12, (vI x0))]
   refine st 3 a6 (nx (si (so ?_)))
   let a7 : St := a6.p [(15, (vB (decide ((Int.tmod x0 10) < 0)))), (14, (vI (Int.tmod x0 10)))]
   refine st 2 a7 (nx ?_)
   refine cd h (fun h => ?_) fun h => ?_
   refine oi ?_
   let a8 : St := a7.p [(5, (vI (IntKind.wrap .i64 (0 - (Int.tmod x0 10))))), (17, (vI (IntKind.wrap .i64 (0 - (Int.tmod x0 10))))), (16, (vI (Int.tmod x0 10)))]
   exact st 3 a8 (ni (next_step (s' := stsDigits_J1 x0 p0 x4 (IntKind.wrap .i64 (0 - (Int.tmod x0 10)))) (wr [] (es (es (es (es er_nil)))) br_nil) (OK_sDigits_J1 x0 x4 (IntKind.wrap .i64 (0 - (Int.tmod x0 10))) _ h)))
   exact ki (next_step (s' := stsDigits_J1 x0 p0 x4 (Int.tmod x0 10)) (wr [] (es (es (es (es er_nil)))) br_nil) (OK_sDigits_J1 x0 x4 (Int.tmod x0 10) _ h))
   refine ei (te (te (bh (xi (si (so ?_))))))
   let a9 : St := a5.p [(27, (vB (decide (p0 < 0))))]
   refine st 1 a9 (nx ?_)
   refine cd h (fun h => ?_) fun h => ?_
   refine so ?_
   let a10 : St := a9.p [(28, (vS x4))]
   refine st 1 a10 (vs (fun (y : (List UInt8)) => (vS y)) h (fun y hy => vop_cat (a := [45]) (b := x4) hy (by kernel_rfl) (by kernel_rfl) (by kernel_rfl)) fun y1 h => ?_)
   let a11 : St := a10.p [(2, (vS y1)), (29, (vS y1))]
   refine st 1 a11 (nx (ri (tr ?_)))
   injection h with h; subst h
   exact r1 (v := (vS y1))
   refine ki (xi (so ?_))
   let a12 : St := a9.p [(2, (vS x4)), (30, (vS x4))]
   refine st 2 a12 (nx (ri ?_))
   injection h with h; subst h
   exact r1 (v := (vS x4))
theorem OK_sDigits_J1 (x0 : Int) (p0 : Int) (x4 : (List UInt8)) (x5 : Int) (r : (List UInt8)) (h : sDigits_J1 x0 p0 x4 x5 = some r) : avc Tryz.prog acsDigits_J1 (qsDigits_3 r) (stsDigits_J1 x0 p0 x4 x5) := (OKs_sDigits_J1 p0).1 x0 x4 x5 r h
theorem OK_sDigits_L0 (p0 : Int) (x0 : Int) (x4 : (List UInt8)) (r : (List UInt8)) (h : sDigits_L0 p0 x0 x4 = some r) : avc Tryz.prog acsDigits_L0 (qsDigits_1 r) (stsDigits_L0 p0 x0 x4) := (OKs_sDigits_J1 p0).2 x0 x4 r h
theorem OK_sDigits (p0 : Int) : FOk Tryz.prog 129 [(vI p0)] (fun y => (vS y)) (sDigits p0) := by
 intro r h
 rw [sDigits] at h
 refine aof trsDigits ?_
 show avc Tryz.prog acsDigits (qsDigits _) ⟨[(0, (vI p0))], []⟩
 delta acsDigits
 refine so ?_
 let a0 : St := ⟨[(2, (vS [])), (0, (vI p0))], []⟩
 refine st 1 a0 (nx (si (so ?_)))
 let a1 : St := a0.p [(7, (vB (decide (p0 = 0)))), (6, (vI p0))]
 refine st 2 a1 (nx ?_)
 refine cd h (fun h => ?_) fun h => ?_
 refine so ?_
 let a2 : St := a1.p [(2, (vS [48]))]
 refine st 1 a2 (nx (ri (tr ?_)))
 injection h with h; subst h
 exact r1 (v := (vS [48]))
 refine ki (xi (so ?_))
 let a3 : St := a1.p [(3, (vB (decide (p0 < 0)))), (9, (vB (decide (p0 < 0)))), (8, (vI p0))]
 refine st 3 a3 (nx (so ?_))
 let a4 : St := a3.p [(4, (vS []))]
 exact st 1 a4 (nx (si (bi (loop_go (s' := stsDigits_L0 p0 p0 []) (wr [] (es (es (es er_nil))) br_nil) (OK_sDigits_L0 p0 p0 [] _ h)))))
theorem OKs_sNumber_L0 (p0 : (List UInt8)) : (∀ (x4 : Int) (x5 : Int) (r : Int × Bool), sNumber_L0 p0 x4 x5 = some r → avc Tryz.prog acsNumber_L0 (qsNumber_1 r) (stsNumber_L0 p0 x4 x5)) := by
 refine sNumber_L0.partial_correctness p0 (fun x4 x5 r => avc Tryz.prog acsNumber_L0 (qsNumber_1 r) (stsNumber_L0 p0 x4 x5)) ?_
 · intro F_sNumber_L0 OK_sNumber_L0 x4 x5 r h
   delta acsNumber_L0
   refine loop_unroll (si (so ?_))
   let a5 : St := (stsNumber_L0 p0 x4 x5).p [(18, (vB (decide (x5 < (ln p0))))), (17, (vI (ln p0))), (16, (vS p0)), (15, (vI x5))]
   refine st 4 a5 (nx ?_)
   refine cd h (fun h => ?_) fun h => ?_
   refine ki (xi (si (bi (si (so ?_)))))
   let a6 : St := a5.p [(22, (vI x5)), (21, (vS p0))]
   refine st 2 a6 (vs (fun (y : Int) => (.d (.i .u8 y))) h (fun y hy => vop_ix (b := p0) (k := .i64) hy (by kernel_rfl) (by kernel_rfl) (by kernel_rfl)) fun y2 h => ?_)
   let a7 : St := a6.p [(25, (vB (decide (y2 < 48)))), (24, (vB (decide (y2 < 48)))), (23, (.d (.i .u8 y2)))]
   refine st 2 a7 (gp true (decide (y2 < 48)) (vS p0) (fun hc => vl) (gp true (decide (y2 < 48)) (vI x5) (fun hc => vl) ?_))
   refine gv true (decide (y2 < 48)) (fun (y : Int) => (.d (.i .u8 y))) h (fun y hy hc => vop_ix (b := p0) (k := .i64) hy (Eq.trans (b := ([(true && ((decide (y2 < 48)) == false)), (true && ((decide (y2 < 48)) == false))] : List Bool).all id) (by kernel_rfl) (all_c hc (all_c hc rfl))) (by kernel_rfl) (by kernel_rfl)) fun y3 h => (gp true (decide (y2 < 48)) (vB (decide (57 < y3))) (fun hc => vg hc) ?_)
   refine vs (fun (y : Bool) => (vB y)) h (fun y hy => vop_pickV hy (p := true) (q := (true && ((decide (y2 < 48)) == false))) (by kernel_rfl) (by kernel_rfl) (by kernel_rfl) (by kernel_rfl) (fun _ => rfl) (fun hb => gc_f rfl hb)) fun y4 h => (nx ?_)
   refine cd h (fun h => ?_) fun h => ?_
   refine so ?_
   let a8 : St := a7.p [(3, (vB false)), (2, (vI 0)), (30, (vB y4)), (29, (.ite (true && ((decide (y2 < 48)) == false)) (vB (decide (57 < y3))))), (28, (.ite (true && ((decide (y2 < 48)) == false)) (.d (.i .u8 y3)))), (27, (.ite (true && ((decide (y2 < 48)) == false)) (vI x5))), (26, (.ite (true && ((decide (y2 < 48)) == false)) (vS p0)))]
   refine st 2 a8 (nx (ri (tr (br (tr (tr (br (tr ?_))))))))
   injection h with h; subst h
   exact retn_step (vs := [(vI 0), (vB false)]) (by kernel_rfl) (by kernel_rfl)
   refine ki (xi (so ?_))
   let a9 : St := a7.p [(32, (vI x5)), (31, (vS p0)), (30, (vB y4)), (29, (.ite (true && ((decide (y2 < 48)) == false)) (vB (decide (57 < y3))))), (28, (.ite (true && ((decide (y2 < 48)) == false)) (.d (.i .u8 y3)))), (27, (.ite (true && ((decide (y2 < 48)) == false)) (vI x5))), (26, (.ite (true && ((decide (y2 < 48)) == false)) (vS p0)))]
   refine st 2 a9 (vs (fun (y : Int) => (.d (.i .u8 y))) h (fun y hy => vop_ix (b := p0) (k := .i64) hy (by kernel_rfl) (by kernel_rfl) (by kernel_rfl)) fun y5 h => ?_)
   let a10 : St := a9.p [(6, (vI (IntKind.wrap .i64 ((IntKind.wrap .i64 y5) - 48)))), (35, (vI (IntKind.wrap .i64 ((IntKind.wrap .i64 y5) - 48)))), (34, (vI (IntKind.wrap .i64 y5))), (33, (.d (.i .u8 y5)))]
   refine st 3 a10 (nx (si (so ?_)))
   let a11 : St := a10.p [(40, (vB (decide ((IntKind.wrap .i64 (Int.tdiv (IntKind.wrap .i64 (9223372036854775807 - (IntKind.wrap .i64 ((IntKind.wrap .i64 y5) - 48)))) 10)) < x4)))), (39, (vI (IntKind.wrap .i64 (Int.tdiv (IntKind.wrap .i64 (9223372036854775807 - (IntKind.wrap .i64 ((IntKind.wrap .i64 y5) - 48)))) 10)))), (38, (vI (IntKind.wrap .i64 (9223372036854775807 - (IntKind.wrap .i64 ((IntKind.wrap .i64 y5) - 48)))))), (37, (vI (IntKind.wrap .i64 ((IntKind.wrap .i64 y5) - 48)))), (36, (vI x4))]
   refine st 5 a11 (nx ?_)
   refine cd h (fun h => ?_) fun h => ?_
   refine so ?_
   let a12 : St := a11.p [(3, (vB false)), (2, (vI 0))]
   refine st 2 a12 (nx (ri (tr (br (tr (tr (br (tr ?_))))))))
   injection h with h; subst h
   exact retn_step (vs := [(vI 0), (vB false)]) (by kernel_rfl) (by kernel_rfl)
   refine ki (xi (oi ?_))
   let a13 : St := a11.p [(4, (vI (IntKind.wrap .i64 ((IntKind.wrap .i64 (10 * x4)) + (IntKind.wrap .i64 ((IntKind.wrap .i64 y5) - 48)))))), (44, (vI (IntKind.wrap .i64 ((IntKind.wrap .i64 (10 * x4)) + (IntKind.wrap .i64 ((IntKind.wrap .i64 y5) - 48)))))), (43, (vI (IntKind.wrap .i64 ((IntKind.wrap .i64 y5) - 48)))), (42, (vI (IntKind.wrap .i64 (10 * x4)))), (41, (vI x4))]
   refine st 5 a13 (ni (bn (xi (oi ?_))))
   let a14 : St := a13.p [(5, (vI (IntKind.wrap .i64 (x5 + 1)))), (20, (vI (IntKind.wrap .i64 (x5 + 1)))), (19, (vI x5))]
   exact st 3 a14 (ni (loop_back (s' := stsNumber_L0 p0 (IntKind.wrap .i64 ((IntKind.wrap .i64 (10 * x4)) + (IntKind.wrap .i64 ((IntKind.wrap .i64 y5) - 48)))) (IntKind.wrap .i64 (x5 + 1))) (wr [] (es (es (es er_nil))) br_nil) (OK_sNumber_L0 (IntKind.wrap .i64 ((IntKind.wrap .i64 (10 * x4)) + (IntKind.wrap .i64 ((IntKind.wrap .i64 y5) - 48)))) (IntKind.wrap .i64 (x5 + 1)) _ h)))
   refine ei (te (te (bh (xi (si (so ?_))))))
   let a15 : St := a5.p [(45, (vI x4))]
   refine st 1 a15 (cs h (OK_sDigits x4) fun y6 h => ?_)
   let a16 : St := a15.p [(48, (vB (!decide (y6 = p0)))), (47, (vS p0)), (46, (vS y6))]
   refine st 2 a16 (nx ?_)
   refine cd h (fun h => ?_) fun h => ?_
   refine so ?_
   let a17 : St := a16.p [(3, (vB false)), (2, (vI 0))]
   refine st 2 a17 (nx (ri (tr ?_)))
   injection h with h; subst h
   exact retn_step (vs := [(vI 0), (vB false)]) (by kernel_rfl) (by kernel_rfl)
   refine ki (xi (so ?_))
   let a18 : St := a16.p [(3, (vB true)), (2, (vI x4)), (49, (vI x4))]
   refine st 3 a18 (nx (ri ?_))
   injection h with h; subst h
   exact retn_step (vs := [(vI x4), (vB true)]) (by kernel_rfl) (by kernel_rfl)
theorem OK_sNumber_L0 (p0 : (List UInt8)) (x4 : Int) (x5 : Int) (r : Int × Bool) (h : sNumber_L0 p0 x4 x5 = some r) : avc Tryz.prog acsNumber_L0 (qsNumber_1 r) (stsNumber_L0 p0 x4 x5) := (OKs_sNumber_L0 p0) x4 x5 r h
theorem OK_sNumber (p0 : (List UInt8)) : FOk Tryz.prog 94 [(vS p0)] (fun y => (.tup [(vI y.1), (vB y.2)])) (sNumber p0) := by
 intro r h
 rw [sNumber] at h
 refine aof trsNumber ?_
 show avc Tryz.prog acsNumber (qsNumber _) ⟨[(0, (vS p0))], []⟩
 delta acsNumber
 refine so ?_
 let a0 : St := ⟨[(3, (vB false)), (2, (vI 0)), (0, (vS p0))], []⟩
 refine st 2 a0 (nx (si (so ?_)))
 let a1 : St := a0.p [(10, (vB (decide ((ln p0) < 1)))), (9, (vB (decide ((ln p0) < 1)))), (8, (vI (ln p0))), (7, (vS p0))]
 refine st 4 a1 (gp true (decide ((ln p0) < 1)) (vS p0) (fun hc => vl) (gp true (decide ((ln p0) < 1)) (vI (ln p0)) (fun hc => vg hc) (gp true (decide ((ln p0) < 1)) (vB (decide (19 < (ln p0)))) (fun hc => vg hc) ?_)))
 refine vs (fun (y : Bool) => (vB y)) h (fun y hy => vop_pickV hy (p := true) (q := (true && ((decide ((ln p0) < 1)) == false))) (by kernel_rfl) (by kernel_rfl) (by kernel_rfl) (by kernel_rfl) (fun _ => rfl) (fun hb => gc_f rfl hb)) fun y1 h => (nx ?_)
 refine cd h (fun h => ?_) fun h => ?_
 refine so ?_
 let a2 : St := a1.p [(3, (vB false)), (2, (vI 0)), (14, (vB y1)), (13, (.ite (true && ((decide ((ln p0) < 1)) == false)) (vB (decide (19 < (ln p0)))))), (12, (.ite (true && ((decide ((ln p0) < 1)) == false)) (vI (ln p0)))), (11, (.ite (true && ((decide ((ln p0) < 1)) == false)) (vS p0)))]
 refine st 2 a2 (nx (ri (tr ?_)))
 injection h with h; subst h
 exact retn_step (vs := [(vI 0), (vB false)]) (by kernel_rfl) (by kernel_rfl)
 refine ki (xi (so ?_))
 let a3 : St := a1.p [(4, (vI 0)), (14, (vB y1)), (13, (.ite (true && ((decide ((ln p0) < 1)) == false)) (vB (decide (19 < (ln p0)))))), (12, (.ite (true && ((decide ((ln p0) < 1)) == false)) (vI (ln p0)))), (11, (.ite (true && ((decide ((ln p0) < 1)) == false)) (vS p0)))]
 refine st 1 a3 (nx (si (so ?_)))
 let a4 : St := a3.p [(5, (vI 0))]
 exact st 1 a4 (nx (bi (loop_go (s' := stsNumber_L0 p0 0 0) (wr [] (es (es (es er_nil))) br_nil) (OK_sNumber_L0 p0 0 0 _ h))))
theorem OK_sSignOk_J0 (x4 : Bool) (r : Bool) (h : sSignOk_J0 x4 = some r) : avc Tryz.prog acsSignOk_J0 (qsSignOk_1 r) (stsSignOk_J0 x4) := by
 rw [sSignOk_J0] at h
 delta acsSignOk_J0
 refine cd h (fun h => ?_) fun h => ?_
 refine so ?_
 let a18 : St := (stsSignOk_J0 x4).p [(2, (vB true))]
 refine st 1 a18 (nx (ri (br (tr ?_))))
 injection h with h; subst h
 exact r1 (v := (vB true))
 refine ki (bn (xi (so ?_)))
 let a19 : St := (stsSignOk_J0 x4).p [(2, (vB false))]
 refine st 1 a19 (nx (ri ?_))
 injection h with h; subst h
 exact r1 (v := (vB false))
theorem OK_sSignOk (p0 : (List UInt8)) : FOk Tryz.prog 95 [(vS p0)] (fun y => (vB y)) (sSignOk p0) := by
 intro r h
 rw [sSignOk] at h
 refine aof trsSignOk ?_
 show avc Tryz.prog acsSignOk (qsSignOk _) ⟨[(0, (vS p0))], []⟩
 delta acsSignOk
 refine so ?_
 let a0 : St := ⟨[(2, (vB false)), (0, (vS p0))], []⟩
 refine st 1 a0 (nx (si (so ?_)))
 let a1 : St := a0.p [(3, (vS p0))]
 refine st 1 a1 (nx (bi (si (so ?_))))
 let a2 : St := a1.p [(4, (vB (decide (p0 = [40])))), (5, (vB (decide (p0 = [40]))))]
 refine st 2 a2 (nx ?_)
 refine cd h (fun h => ?_) fun h => ?_
 exact ki (next_step (s' := stsSignOk_J0 (decide (p0 = [40]))) (wr [] (es er_nil) br_nil) (OK_sSignOk_J0 (decide (p0 = [40])) _ h))
 refine so ?_
 let a3 : St := a2.p [(4, (vB (decide (p0 = [41])))), (6, (vB (decide (p0 = [41]))))]
 refine st 2 a3 (nx ?_)
 refine cd h (fun h => ?_) fun h => ?_
 exact ki (next_step (s' := stsSignOk_J0 (decide (p0 = [41]))) (wr [] (es er_nil) br_nil) (OK_sSignOk_J0 (decide (p0 = [41])) _ h))
 refine so ?_
 let a4 : St := a3.p [(4, (vB (decide (p0 = [44])))), (7, (vB (decide (p0 = [44]))))]
 refine st 2 a4 (nx ?_)
 refine cd h (fun h => ?_) fun h => ?_
 exact ki (next_step (s' := stsSignOk_J0 (decide (p0 = [44]))) (wr [] (es er_nil) br_nil) (OK_sSignOk_J0 (decide (p0 = [44])) _ h))
 refine so ?_
 let a5 : St := a4.p [(4, (vB (decide (p0 = [46])))), (8, (vB (decide (p0 = [46]))))]
 refine st 2 a5 (nx ?_)
 refine cd h (fun h => ?_) fun h => ?_
 exact ki (next_step (s' := stsSignOk_J0 (decide (p0 = [46]))) (wr [] (es er_nil) br_nil) (OK_sSignOk_J0 (decide (p0 = [46])) _ h))
 refine so ?_
 let a6 : St := a5.p [(4, (vB (decide (p0 = [42])))), (9, (vB (decide (p0 = [42]))))]
 refine st 2 a6 (nx ?_)
 refine cd h (fun h => ?_) fun h => ?_
 exact ki (next_step (s' := stsSignOk_J0 (decide (p0 = [42]))) (wr [] (es er_nil) br_nil) (OK_sSignOk_J0 (decide (p0 = [42])) _ h))
 refine so ?_
 let a7 : St := a6.p [(4, (vB (decide (p0 = [43])))), (10, (vB (decide (p0 = [43]))))]
 refine st 2 a7 (nx ?_)
 refine cd h (fun h => ?_) fun h => ?_
 exact ki (next_step (s' := stsSignOk_J0 (decide (p0 = [43]))) (wr [] (es er_nil) br_nil) (OK_sSignOk_J0 (decide (p0 = [43])) _ h))
 refine so ?_
 let a8 : St := a7.p [(4, (vB (decide (p0 = [45])))), (11, (vB (decide (p0 = [45]))))]
 refine st 2 a8 (nx ?_)
 refine cd h (fun h => ?_) fun h => ?_
 exact ki (next_step (s' := stsSignOk_J0 (decide (p0 = [45]))) (wr [] (es er_nil) br_nil) (OK_sSignOk_J0 (decide (p0 = [45])) _ h))
 refine so ?_
 let a9 : St := a8.p [(4, (vB (decide (p0 = [47])))), (12, (vB (decide (p0 = [47]))))]
 refine st 2 a9 (nx ?_)
 refine cd h (fun h => ?_) fun h => ?_
 exact ki (next_step (s' := stsSignOk_J0 (decide (p0 = [47]))) (wr [] (es er_nil) br_nil) (OK_sSignOk_J0 (decide (p0 = [47])) _ h))
 refine so ?_
 let a10 : St := a9.p [(4, (vB (decide (p0 = [37])))), (13, (vB (decide (p0 = [37]))))]
 refine st 2 a10 (nx ?_)
 refine cd h (fun h => ?_) fun h => ?_
 exact ki (next_step (s' := stsSignOk_J0 (decide (p0 = [37]))) (wr [] (es er_nil) br_nil) (OK_sSignOk_J0 (decide (p0 = [37])) _ h))
 refine so ?_
 let a11 : St := a10.p [(4, (vB (decide (p0 = [61])))), (14, (vB (decide (p0 = [61]))))]
 refine st 2 a11 (nx ?_)
 refine cd h (fun h => ?_) fun h => ?_
 exact ki (next_step (s' := stsSignOk_J0 (decide (p0 = [61]))) (wr [] (es er_nil) br_nil) (OK_sSignOk_J0 (decide (p0 = [61])) _ h))
 refine so ?_
 let a12 : St := a11.p [(4, (vB (decide (p0 = [60, 62])))), (15, (vB (decide (p0 = [60, 62]))))]
 refine st 2 a12 (nx ?_)
 refine cd h (fun h => ?_) fun h => ?_
 exact ki (next_step (s' := stsSignOk_J0 (decide (p0 = [60, 62]))) (wr [] (es er_nil) br_nil) (OK_sSignOk_J0 (decide (p0 = [60, 62])) _ h))
 refine so ?_
 let a13 : St := a12.p [(4, (vB (decide (p0 = [60])))), (16, (vB (decide (p0 = [60]))))]
 refine st 2 a13 (nx ?_)
 refine cd h (fun h => ?_) fun h => ?_
 exact ki (next_step (s' := stsSignOk_J0 (decide (p0 = [60]))) (wr [] (es er_nil) br_nil) (OK_sSignOk_J0 (decide (p0 = [60])) _ h))
 refine so ?_
 let a14 : St := a13.p [(4, (vB (decide (p0 = [60, 61])))), (17, (vB (decide (p0 = [60, 61]))))]
 refine st 2 a14 (nx ?_)
 refine cd h (fun h => ?_) fun h => ?_
 exact ki (next_step (s' := stsSignOk_J0 (decide (p0 = [60, 61]))) (wr [] (es er_nil) br_nil) (OK_sSignOk_J0 (decide (p0 = [60, 61])) _ h))
 refine so ?_
 let a15 : St := a14.p [(4, (vB (decide (p0 = [62])))), (18, (vB (decide (p0 = [62]))))]
 refine st 2 a15 (nx ?_)
 refine cd h (fun h => ?_) fun h => ?_
 exact ki (next_step (s' := stsSignOk_J0 (decide (p0 = [62]))) (wr [] (es er_nil) br_nil) (OK_sSignOk_J0 (decide (p0 = [62])) _ h))
 refine so ?_
 let a16 : St := a15.p [(4, (vB (decide (p0 = [62, 61])))), (19, (vB (decide (p0 = [62, 61]))))]
 refine st 2 a16 (nx ?_)
 refine cd h (fun h => ?_) fun h => ?_
 exact ki (next_step (s' := stsSignOk_J0 (decide (p0 = [62, 61]))) (wr [] (es er_nil) br_nil) (OK_sSignOk_J0 (decide (p0 = [62, 61])) _ h))
 refine oi ?_
 let a17 : St := a16.p [(4, (vB (decide (p0 = [124, 124])))), (20, (vB (decide (p0 = [124, 124]))))]
 exact st 2 a17 (ni (next_step (s' := stsSignOk_J0 (decide (p0 = [124, 124]))) (wr [] (es er_nil) br_nil) (OK_sSignOk_J0 (decide (p0 = [124, 124])) _ h)))
theorem OK_sTokenOk (p0 : GToken) : FOk Tryz.prog 48 [(vGToken p0)] (fun y => (vB y)) (sTokenOk p0) := by
 intro r h
 rw [sTokenOk] at h
 refine aof trsTokenOk ?_
 show avc Tryz.prog acsTokenOk (qsTokenOk _) ⟨[(0, (vGToken p0))], []⟩
 delta acsTokenOk
 refine so ?_
 let a0 : St := ⟨[(2, (vB false)), (1, (.ptr 1 0)), (0, (vGToken p0))], [(1, bGToken p0)]⟩
 refine st 2 a0 (nx (si (so ?_)))
 let a1 : St := a0.p [(6, (vI p0.kind)), (5, (.ptr 1 0))]
 refine st 2 a1 (nx (bi (so ?_)))
 let a2 : St := a1.p [(7, (vB (decide (p0.kind = 1)))), (8, (vB (decide (p0.kind = 1))))]
 refine st 2 a2 (nx ?_)
 refine cd h (fun h => ?_) fun h => ?_
 refine si (dops_in ?_)
 let a3 : St := a2.p [(10, (vS p0.text)), (9, (.ptr 1 1))]
 refine dsts_ok 2 (s' := a3) (by kernel_rfl) (dcall_step (m := sKeyOf p0.text) (args := [(vS p0.text)]) (v' := (fun y => (vI y))) h (OK_sKeyOf p0.text) (by kernel_rfl) (by kernel_rfl) (fun _ => rfl) ?_)
 clear h; intro y1 h
 let a4 : St := a3.p [(13, (vB (decide (0 < y1)))), (12, (vB (decide (0 < y1)))), (11, (vI y1))]
 refine dsts_ok 2 (s' := a4) (by kernel_rfl) (dgp_step (p := true) (b := (decide (0 < y1))) (v' := (.ptr 1 1)) (by kernel_rfl) rfl rfl (fun hc => vl) (dgp_step (p := true) (b := (decide (0 < y1))) (v' := (vS p0.text)) (by kernel_rfl) rfl rfl (fun hc => vg hc) ?_))
 refine dgcall_step (p := true) (b := (decide (0 < y1))) (m := sFold p0.text) (dflt := default) (args := [(vS p0.text)]) (v' := (fun y => (vS y))) h (by kernel_rfl) (OK_sFold p0.text) (fun hc => by kernel_rfl) (by kernel_rfl) (fun _ => rfl) (fun hc => (Eq.trans (b := ([(true && ((decide (0 < y1)) == true))] : List Bool).all id) (by kernel_rfl) (all_c hc rfl))) ?_
 clear h; intro y2 h
 refine dgp_step (p := true) (b := (decide (0 < y1))) (v' := (.ptr 1 1)) (by kernel_rfl) rfl rfl (fun hc => vl) (dgp_step (p := true) (b := (decide (0 < y1))) (v' := (vS p0.text)) (by kernel_rfl) rfl rfl (fun hc => vg hc) ?_)
 refine dgp_step (p := true) (b := (decide (0 < y1))) (v' := (vB (decide (y2 = p0.text)))) (by kernel_rfl) rfl rfl (fun hc => vop_val1 (Eq.trans (b := ([(true && ((decide (0 < y1)) == true)), (true && ((decide (0 < y1)) == true))] : List Bool).all id) (by kernel_rfl) (all_c hc (all_c hc rfl))) (by kernel_rfl)) ?_
 refine dv_step (m := some (if (decide (0 < y1)) = true then (decide (y2 = p0.text)) else false)) (v' := fun y => (vB y)) h rfl rfl (fun y hy => vop_pickV hy (p := (true && ((decide (0 < y1)) == true))) (q := true) (by kernel_rfl) (by kernel_rfl) (by kernel_rfl) (by kernel_rfl) (fun hb => gc_t rfl hb) (fun _ => rfl)) ?_
 clear h; intro y3 h
 let a5 : St := a4.p [(2, (vB y3)), (20, (vB y3)), (19, (.ite (true && ((decide (0 < y1)) == true)) (vB (decide (y2 = p0.text))))), (18, (.ite (true && ((decide (0 < y1)) == true)) (vS p0.text))), (17, (.ite (true && ((decide (0 < y1)) == true)) (.ptr 1 1))), (16, (.ite (true && ((decide (0 < y1)) == true)) (vS y2))), (15, (.ite (true && ((decide (0 < y1)) == true)) (vS p0.text))), (14, (.ite (true && ((decide (0 < y1)) == true)) (.ptr 1 1)))]
 refine dsts_ok 1 (s' := a5) (by kernel_rfl) (dnil_in (by kernel_rfl) (by kernel_rfl) (xi (ri (br (tr ?_)))))
 injection h with h; subst h
 exact r1 (v := (vB y3))
 refine so ?_
 let a6 : St := a2.p [(21, (vB (decide (p0.kind = 2)))), (22, (vB (decide (p0.kind = 2))))]
 refine st 2 a6 (nx ?_)
 refine cd h (fun h => ?_) fun h => ?_
 refine so ?_
 let a7 : St := a6.p [(24, (vS p0.text)), (23, (.ptr 1 1))]
 refine st 2 a7 (cs h (OK_sNameOk p0.text) fun y4 h => ?_)
 let a8 : St := a7.p [(2, (vB y4)), (25, (vB y4))]
 refine st 1 a8 (nx (ri (br (tr ?_))))
 injection h with h; subst h
 exact r1 (v := (vB y4))
 refine so ?_
 let a9 : St := a6.p [(26, (vB (decide (p0.kind = 3)))), (27, (vB (decide (p0.kind = 3))))]
 refine st 2 a9 (nx ?_)
 refine cd h (fun h => ?_) fun h => ?_
 refine so ?_
 let a10 : St := a9.p [(30, (vS p0.text)), (29, (.ptr 1 1))]
 refine st 2 a10 (cs h (OK_sNumber p0.text) fun y5 h => ?_)
 let a11 : St := a10.p [(4, (vB y5.2)), (3, (vI y5.1)), (33, (vB y5.2)), (32, (vI y5.1)), (28, (.tup [(vI y5.1), (vB y5.2)])), (31, (.tup [(vI y5.1), (vB y5.2)]))]
 refine st 5 a11 (nx (so ?_))
 let a12 : St := a11.p [(2, (vB y5.2)), (34, (vB y5.2))]
 refine st 2 a12 (nx (ri (br (tr ?_))))
 injection h with h; subst h
 exact r1 (v := (vB y5.2))
 refine so ?_
 let a13 : St := a9.p [(35, (vB (decide (p0.kind = 4)))), (36, (vB (decide (p0.kind = 4))))]
 refine st 2 a13 (nx ?_)
 refine cd h (fun h => ?_) fun h => ?_
 refine so ?_
 let a14 : St := a13.p [(2, (vB (decide ((ln p0.text) ≤ 40)))), (40, (vB (decide ((ln p0.text) ≤ 40)))), (39, (vI (ln p0.text))), (38, (vS p0.text)), (37, (.ptr 1 1))]
 refine st 5 a14 (nx (ri (br (tr ?_))))
 injection h with h; subst h
 exact r1 (v := (vB (decide ((ln p0.text) ≤ 40))))
 refine so ?_
 let a15 : St := a13.p [(41, (vB (decide (p0.kind = 5)))), (42, (vB (decide (p0.kind = 5))))]
 refine st 2 a15 (nx ?_)
 refine cd h (fun h => ?_) fun h => ?_
 refine so ?_
 let a16 : St := a15.p [(44, (vS p0.text)), (43, (.ptr 1 1))]
 refine st 2 a16 (cs h (OK_sSignOk p0.text) fun y6 h => ?_)
 let a17 : St := a16.p [(2, (vB y6)), (45, (vB y6))]
 refine st 1 a17 (nx (ri (br (tr ?_))))
 injection h with h; subst h
 exact r1 (v := (vB y6))
 refine ki (bn (xi (so ?_)))
 let a18 : St := a15.p [(2, (vB false))]
 refine st 1 a18 (nx (ri ?_))
 injection h with h; subst h
 exact r1 (v := (vB false))
theorem OK_sTokenText (p0 : GToken) : FOk Tryz.prog 50 [(vGToken p0)] (fun y => (vS y)) (sTokenText p0) := by
 intro r h
 rw [sTokenText] at h
 refine aof trsTokenText ?_
 show avc Tryz.prog acsTokenText (qsTokenText _) ⟨[(0, (vGToken p0))], []⟩
 delta acsTokenText
 refine so ?_
 let a0 : St := ⟨[(2, (vS [])), (1, (.ptr 1 0)), (0, (vGToken p0))], [(1, bGToken p0)]⟩
 refine st 2 a0 (nx (si (so ?_)))
 let a1 : St := a0.p [(3, (vGToken p0))]
 refine st 1 a1 (cs h (OK_sTokenOk p0) fun y1 h => ?_)
 let a2 : St := a1.p [(5, (vB (!y1))), (4, (vB y1))]
 refine st 1 a2 (nx ?_)
 refine cd h (fun h => ?_) fun h => ?_
 refine so ?_
 let a3 : St := a2.p [(2, (vS []))]
 refine st 1 a3 (nx (ri (tr ?_)))
 injection h with h; subst h
 exact r1 (v := (vS []))
 refine ki (xi (si (so ?_)))
 let a4 : St := a2.p [(7, (vI p0.kind)), (6, (.ptr 1 0))]
 refine st 2 a4 (nx (bi (so ?_)))
 let a5 : St := a4.p [(8, (vB (decide (p0.kind = 2)))), (9, (vB (decide (p0.kind = 2))))]
 refine st 2 a5 (nx ?_)
 refine cd h (fun h => ?_) fun h => ?_
 refine so ?_
 let a6 : St := a5.p [(11, (vS p0.text)), (10, (.ptr 1 1))]
 refine st 2 a6 (cs h (OK_sNameText p0.text) fun y2 h => ?_)
 let a7 : St := a6.p [(2, (vS y2)), (12, (vS y2))]
 refine st 1 a7 (nx (ri (br (tr ?_))))
 injection h with h; subst h
 exact r1 (v := (vS y2))
 refine so ?_
 let a8 : St := a5.p [(13, (vB (decide (p0.kind = 4)))), (14, (vB (decide (p0.kind = 4))))]
 refine st 2 a8 (nx ?_)
 refine cd h (fun h => ?_) fun h => ?_
 refine so ?_
 let a9 : St := a8.p [(16, (vS p0.text)), (15, (.ptr 1 1))]
 refine st 2 a9 (cs h (OK_sQuoteText p0.text) fun y3 h => ?_)
 let a10 : St := a9.p [(2, (vS y3)), (17, (vS y3))]
 refine st 1 a10 (nx (ri (br (tr ?_))))
 injection h with h; subst h
 exact r1 (v := (vS y3))
 refine ki (bn (xi (so ?_)))
 let a11 : St := a8.p [(2, (vS p0.text)), (19, (vS p0.text)), (18, (.ptr 1 1))]
 refine st 3 a11 (nx (ri ?_))
 injection h with h; subst h
 exact r1 (v := (vS p0.text))
theorem OK_sL4Quoted (p0 : GToken) : FOk Tryz.prog 97 [(vGToken p0)] (fun y => (vB y)) (sL4Quoted p0) := by
 intro r h
 rw [sL4Quoted] at h
 refine aof trsL4Quoted ?_
 show avc Tryz.prog acsL4Quoted (qsL4Quoted _) ⟨[(0, (vGToken p0))], []⟩
 delta acsL4Quoted
 refine so ?_
 let a0 : St := ⟨[(2, (vB false)), (1, (.ptr 1 0)), (0, (vGToken p0))], [(1, bGToken p0)]⟩
 refine st 2 a0 (nx (so ?_))
 let a1 : St := a0.p [(6, (vB (decide (p0.kind = 2)))), (5, (vB (decide (p0.kind = 2)))), (4, (vI p0.kind)), (3, (.ptr 1 0))]
 refine st 4 a1 (gp true (decide (p0.kind = 2)) (.ptr 1 1) (fun hc => vl) (gp true (decide (p0.kind = 2)) (vS p0.text) (fun hc => vg hc) ?_))
 refine gcall_step (p := true) (b := (decide (p0.kind = 2))) (m := sPlainName p0.text) (dflt := default) (args := [(vS p0.text)]) (v' := (fun y => (vB y))) h (by kernel_rfl) (OK_sPlainName p0.text) (fun hc => by kernel_rfl) (by kernel_rfl) (fun _ => rfl) (fun hc => (Eq.trans (b := ([(true && ((decide (p0.kind = 2)) == true))] : List Bool).all id) (by kernel_rfl) (all_c hc rfl))) ?_
 clear h; intro y1 h
 refine gp true (decide (p0.kind = 2)) (vB (!y1)) (fun hc => vg hc) (vs (fun (y : Bool) => (vB y)) h (fun y hy => vop_pickV hy (p := (true && ((decide (p0.kind = 2)) == true))) (q := true) (by kernel_rfl) (by kernel_rfl) (by kernel_rfl) (by kernel_rfl) (fun hb => gc_t rfl hb) (fun _ => rfl)) fun y2 h => ?_)
 let a2 : St := a1.p [(2, (vB y2)), (11, (vB y2)), (10, (.ite (true && ((decide (p0.kind = 2)) == true)) (vB (!y1)))), (9, (.ite (true && ((decide (p0.kind = 2)) == true)) (vB y1))), (8, (.ite (true && ((decide (p0.kind = 2)) == true)) (vS p0.text))), (7, (.ite (true && ((decide (p0.kind = 2)) == true)) (.ptr 1 1)))]
 refine st 1 a2 (nx (ri ?_))
 injection h with h; subst h
 exact r1 (v := (vB y2))
theorem OK_sL4Word (p0 : GToken) : FOk Tryz.prog 96 [(vGToken p0)] (fun y => (vB y)) (sL4Word p0) := by
 intro r h
 rw [sL4Word] at h
 refine aof trsL4Word ?_
 show avc Tryz.prog acsL4Word (qsL4Word _) ⟨[(0, (vGToken p0))], []⟩
 delta acsL4Word
 refine so ?_
 let a0 : St := ⟨[(2, (vB false)), (1, (.ptr 1 0)), (0, (vGToken p0))], [(1, bGToken p0)]⟩
 refine st 2 a0 (nx (so ?_))
 let a1 : St := a0.p [(6, (vB (decide (p0.kind = 1)))), (5, (vB (decide (p0.kind = 1)))), (4, (vI p0.kind)), (3, (.ptr 1 0))]
 refine st 4 a1 (gp true (decide (p0.kind = 1)) (.ptr 1 0) (fun hc => vl) (gp true (decide (p0.kind = 1)) (vI p0.kind) (fun hc => vg hc) (gp true (decide (p0.kind = 1)) (vB (decide (p0.kind = 3))) (fun hc => vg hc) ?_)))
 refine vs (fun (y : Bool) => (vB y)) h (fun y hy => vop_pickV hy (p := true) (q := (true && ((decide (p0.kind = 1)) == false))) (by kernel_rfl) (by kernel_rfl) (by kernel_rfl) (by kernel_rfl) (fun _ => rfl) (fun hb => gc_f rfl hb)) fun y1 h => ?_
 let a2 : St := a1.p [(11, (vB y1)), (10, (vB y1)), (9, (.ite (true && ((decide (p0.kind = 1)) == false)) (vB (decide (p0.kind = 3))))), (8, (.ite (true && ((decide (p0.kind = 1)) == false)) (vI p0.kind))), (7, (.ite (true && ((decide (p0.kind = 1)) == false)) (.ptr 1 0)))]
 refine st 1 a2 (gp true y1 (.ptr 1 0) (fun hc => vl) (gp true y1 (vI p0.kind) (fun hc => vg hc) (gp true y1 (vB (decide (p0.kind = 2))) (fun hc => vg hc) (gp true y1 (vB (decide (p0.kind = 2))) (fun hc => vg hc) (gp (true && (y1 == false)) (decide (p0.kind = 2)) (.ptr 1 1) (fun hc => vl) (gp (true && (y1 == false)) (decide (p0.kind = 2)) (vS p0.text) (fun hc => vg hc) ?_))))))
 refine gcall_step (p := (true && (y1 == false))) (b := (decide (p0.kind = 2))) (m := sPlainName p0.text) (dflt := default) (args := [(vS p0.text)]) (v' := (fun y => (vB y))) h (by kernel_rfl) (OK_sPlainName p0.text) (fun hc => by kernel_rfl) (by kernel_rfl) (fun _ => rfl) (fun hc => (Eq.trans (b := ([((true && (y1 == false)) && ((decide (p0.kind = 2)) == true))] : List Bool).all id) (by kernel_rfl) (all_c hc rfl))) ?_
 clear h; intro y2 h
 refine gv true y1 (fun (y : Bool) => (vB y)) h (fun y hy hc => vop_pickV hy (p := ((true && (y1 == false)) && ((decide (p0.kind = 2)) == true))) (q := true) (Eq.trans (b := ([(true && (y1 == false))] : List Bool).all id) (by kernel_rfl) (all_c hc rfl)) (by kernel_rfl) (by kernel_rfl) (by kernel_rfl) (fun hb => gc_t hc hb) (fun _ => rfl)) fun y3 h => ?_
 refine vs (fun (y : Bool) => (vB y)) h (fun y hy => vop_pickV hy (p := true) (q := (true && (y1 == false))) (by kernel_rfl) (by kernel_rfl) (by kernel_rfl) (by kernel_rfl) (fun _ => rfl) (fun hb => gc_f rfl hb)) fun y4 h => ?_
 let a3 : St := a2.p [(2, (vB y4)), (20, (vB y4)), (19, (.ite (gF y1) (vB y3))), (18, (.ite ((gF y1) && ((decide (p0.kind = 2)) == true)) (vB y2))), (17, (.ite ((gF y1) && ((decide (p0.kind = 2)) == true)) (vS p0.text))), (16, (.ite ((gF y1) && ((decide (p0.kind = 2)) == true)) (.ptr 1 1))), (15, (.ite (gF y1) (vB (decide (p0.kind = 2))))), (14, (.ite (gF y1) (vB (decide (p0.kind = 2))))), (13, (.ite (gF y1) (vI p0.kind))), (12, (.ite (gF y1) (.ptr 1 0)))]
 refine st 1 a3 (nx (ri ?_))
 injection h with h; subst h
 exact r1 (v := (vB y4))
theorem OK_sNeedsGap (p0 : GToken) (p1 : GToken) : FOk Tryz.prog 49 [(vGToken p0), (vGToken p1)] (fun y => (vB y)) (sNeedsGap p0 p1) := by
 intro r h
 rw [sNeedsGap] at h
 refine aof trsNeedsGap ?_
 show avc Tryz.prog acsNeedsGap (qsNeedsGap _) ⟨[(0, (vGToken p0)), (1, (vGToken p1))], []⟩
 delta acsNeedsGap
 refine so ?_
 let a0 : St := ⟨[(4, (vB false)), (3, (.ptr 3 0)), (2, (.ptr 2 0)), (0, (vGToken p0)), (1, (vGToken p1))], [(3, bGToken p1), (2, bGToken p0)]⟩
 refine st 3 a0 (nx (si (so ?_)))
 let a1 : St := a0.p [(5, (vGToken p0))]
 refine st 1 a1 (cs h (OK_sTokenOk p0) fun y1 h => ?_)
 let a2 : St := a1.p [(8, (vB (!y1))), (7, (vB (!y1))), (6, (vB y1))]
 refine st 2 a2 (gp true (!y1) (vGToken p1) (fun hc => vl) (gcall_step (p := true) (b := (!y1)) (m := sTokenOk p1) (dflt := default) (args := [(vGToken p1)]) (v' := (fun y => (vB y))) h (by kernel_rfl) (OK_sTokenOk p1) (fun hc => by kernel_rfl) (by kernel_rfl) (fun _ => rfl) (fun hc => (Eq.trans (b := ([(true && ((!y1) == false))] : List Bool).all id) (by kernel_rfl) (all_c hc rfl))) ?_))
 clear h; intro y2 h
 refine gp true (!y1) (vB (!y2)) (fun hc => vg hc) (vs (fun (y : Bool) => (vB y)) h (fun y hy => vop_pickV hy (p := true) (q := (true && ((!y1) == false))) (by kernel_rfl) (by kernel_rfl) (by kernel_rfl) (by kernel_rfl) (fun _ => rfl) (fun hb => gc_f rfl hb)) fun y3 h => (nx ?_))
 refine cd h (fun h => ?_) fun h => ?_
 refine so ?_
 let a3 : St := a2.p [(4, (vB false)), (12, (vB y3)), (11, (.ite (true && ((!y1) == false)) (vB (!y2)))), (10, (.ite (true && ((!y1) == false)) (vB y2))), (9, (.ite (true && ((!y1) == false)) (vGToken p1)))]
 refine st 1 a3 (nx (ri (tr ?_)))
 injection h with h; subst h
 exact r1 (v := (vB false))
 refine ki (xi (si (so ?_)))
 let a4 : St := a2.p [(13, (vGToken p0)), (12, (vB y3)), (11, (.ite (true && ((!y1) == false)) (vB (!y2)))), (10, (.ite (true && ((!y1) == false)) (vB y2))), (9, (.ite (true && ((!y1) == false)) (vGToken p1)))]
 refine st 1 a4 (cs h (OK_sL4Word p0) fun y4 h => ?_)
 let a5 : St := a4.p [(15, (vB y4)), (14, (vB y4))]
 refine st 1 a5 (gp true y4 (vGToken p1) (fun hc => vl) (gcall_step (p := true) (b := y4) (m := sL4Word p1) (dflt := default) (args := [(vGToken p1)]) (v' := (fun y => (vB y))) h (by kernel_rfl) (OK_sL4Word p1) (fun hc => by kernel_rfl) (by kernel_rfl) (fun _ => rfl) (fun hc => (Eq.trans (b := ([(true && (y4 == true))] : List Bool).all id) (by kernel_rfl) (all_c hc rfl))) ?_))
 clear h; intro y5 h
 refine vs (fun (y : Bool) => (vB y)) h (fun y hy => vop_pickV hy (p := (true && (y4 == true))) (q := true) (by kernel_rfl) (by kernel_rfl) (by kernel_rfl) (by kernel_rfl) (fun hb => gc_t rfl hb) (fun _ => rfl)) fun y6 h => ?_
 let a6 : St := a5.p [(19, (vB y6)), (18, (vB y6)), (17, (.ite (gT y4) (vB y5))), (16, (.ite (gT y4) (vGToken p1)))]
 refine st 1 a6 (gp true y6 (.ptr 2 0) (fun hc => vl) (gp true y6 (vI p0.kind) (fun hc => vg hc) (gp true y6 (vB (decide (p0.kind = 4))) (fun hc => vg hc) (gp true y6 (vB (decide (p0.kind = 4))) (fun hc => vg hc) (gp (true && (y6 == false)) (decide (p0.kind = 4)) (.ptr 3 0) (fun hc => vl) (gp (true && (y6 == false)) (decide (p0.kind = 4)) (vI p1.kind) (fun hc => vg hc) ?_))))))
 refine gp (true && (y6 == false)) (decide (p0.kind = 4)) (vB (decide (p1.kind = 4))) (fun hc => vg hc) ?_
 refine gv true y6 (fun (y : Bool) => (vB y)) h (fun y hy hc => vop_pickV hy (p := ((true && (y6 == false)) && ((decide (p0.kind = 4)) == true))) (q := true) (Eq.trans (b := ([(true && (y6 == false))] : List Bool).all id) (by kernel_rfl) (all_c hc rfl)) (by kernel_rfl) (by kernel_rfl) (by kernel_rfl) (fun hb => gc_t hc hb) (fun _ => rfl)) fun y7 h => ?_
 refine vs (fun (y : Bool) => (vB y)) h (fun y hy => vop_pickV hy (p := true) (q := (true && (y6 == false))) (by kernel_rfl) (by kernel_rfl) (by kernel_rfl) (by kernel_rfl) (fun _ => rfl) (fun hb => gc_f rfl hb)) fun y8 h => ?_
 let a7 : St := a6.p [(29, (vB y8)), (28, (vB y8)), (27, (.ite (gF y6) (vB y7))), (26, (.ite ((gF y6) && ((decide (p0.kind = 4)) == true)) (vB (decide (p1.kind = 4))))), (25, (.ite ((gF y6) && ((decide (p0.kind = 4)) == true)) (vI p1.kind))), (24, (.ite ((gF y6) && ((decide (p0.kind = 4)) == true)) (.ptr 3 0))), (23, (.ite (gF y6) (vB (decide (p0.kind = 4))))), (22, (.ite (gF y6) (vB (decide (p0.kind = 4))))), (21, (.ite (gF y6) (vI p0.kind))), (20, (.ite (gF y6) (.ptr 2 0)))]
 refine st 1 a7 (gp true y8 (vGToken p0) (fun hc => vl) (gcall_step (p := true) (b := y8) (m := sL4Quoted p0) (dflt := default) (args := [(vGToken p0)]) (v' := (fun y => (vB y))) h (by kernel_rfl) (OK_sL4Quoted p0) (fun hc => by kernel_rfl) (by kernel_rfl) (fun _ => rfl) (fun hc => (Eq.trans (b := ([(true && (y8 == false))] : List Bool).all id) (by kernel_rfl) (all_c hc rfl))) ?_))
 clear h; intro y9 h
 refine gp true y8 (vB y9) (fun hc => vg hc) (gp (true && (y8 == false)) y9 (vGToken p1) (fun hc => vl) ?_)
 refine gcall_step (p := (true && (y8 == false))) (b := y9) (m := sL4Quoted p1) (dflt := default) (args := [(vGToken p1)]) (v' := (fun y => (vB y))) h (by kernel_rfl) (OK_sL4Quoted p1) (fun hc => by kernel_rfl) (by kernel_rfl) (fun _ => rfl) (fun hc => (Eq.trans (b := ([((true && (y8 == false)) && (y9 == true))] : List Bool).all id) (by kernel_rfl) (all_c hc rfl))) ?_
 clear h; intro y10 h
 refine gv true y8 (fun (y : Bool) => (vB y)) h (fun y hy hc => vop_pickV hy (p := ((true && (y8 == false)) && (y9 == true))) (q := true) (Eq.trans (b := ([(true && (y8 == false))] : List Bool).all id) (by kernel_rfl) (all_c hc rfl)) (by kernel_rfl) (by kernel_rfl) (by kernel_rfl) (fun hb => gc_t hc hb) (fun _ => rfl)) fun y11 h => ?_
 refine vs (fun (y : Bool) => (vB y)) h (fun y hy => vop_pickV hy (p := true) (q := (true && (y8 == false))) (by kernel_rfl) (by kernel_rfl) (by kernel_rfl) (by kernel_rfl) (fun _ => rfl) (fun hb => gc_f rfl hb)) fun y12 h => (nx ?_)
 refine cd h (fun h => ?_) fun h => ?_
 refine so ?_
 let a8 : St := a7.p [(4, (vB true)), (36, (vB y12)), (35, (.ite (gF y8) (vB y11))), (34, (.ite ((gF y8) && (y9 == true)) (vB y10))), (33, (.ite ((gF y8) && (y9 == true)) (vGToken p1))), (32, (.ite (gF y8) (vB y9))), (31, (.ite (gF y8) (vB y9))), (30, (.ite (gF y8) (vGToken p0)))]
 refine st 1 a8 (nx (ri (tr ?_)))
 injection h with h; subst h
 exact r1 (v := (vB true))
 refine ki (xi (si (so ?_)))
 let a9 : St := a7.p [(40, (vB (!decide (p0.kind = 5)))), (39, (vB (!decide (p0.kind = 5)))), (38, (vI p0.kind)), (37, (.ptr 2 0)), (36, (vB y12)), (35, (.ite (gF y8) (vB y11))), (34, (.ite ((gF y8) && (y9 == true)) (vB y10))), (33, (.ite ((gF y8) && (y9 == true)) (vGToken p1))), (32, (.ite (gF y8) (vB y9))), (31, (.ite (gF y8) (vB y9))), (30, (.ite (gF y8) (vGToken p0)))]
 refine st 4 a9 (gp true (!decide (p0.kind = 5)) (.ptr 3 0) (fun hc => vl) (gp true (!decide (p0.kind = 5)) (vI p1.kind) (fun hc => vg hc) (gp true (!decide (p0.kind = 5)) (vB (!decide (p1.kind = 5))) (fun hc => vg hc) ?_)))
 refine vs (fun (y : Bool) => (vB y)) h (fun y hy => vop_pickV hy (p := true) (q := (true && ((!decide (p0.kind = 5)) == false))) (by kernel_rfl) (by kernel_rfl) (by kernel_rfl) (by kernel_rfl) (fun _ => rfl) (fun hb => gc_f rfl hb)) fun y13 h => (nx ?_)
 refine cd h (fun h => ?_) fun h => ?_
 refine so ?_
 let a10 : St := a9.p [(4, (vB false)), (44, (vB y13)), (43, (.ite (true && ((!decide (p0.kind = 5)) == false)) (vB (!decide (p1.kind = 5))))), (42, (.ite (true && ((!decide (p0.kind = 5)) == false)) (vI p1.kind))), (41, (.ite (true && ((!decide (p0.kind = 5)) == false)) (.ptr 3 0)))]
 refine st 1 a10 (nx (ri (tr ?_)))
 injection h with h; subst h
 exact r1 (v := (vB false))
 refine ki (xi (si (so ?_)))
 let a11 : St := a9.p [(46, (vS p0.text)), (45, (.ptr 2 1)), (44, (vB y13)), (43, (.ite (true && ((!decide (p0.kind = 5)) == false)) (vB (!decide (p1.kind = 5))))), (42, (.ite (true && ((!decide (p0.kind = 5)) == false)) (vI p1.kind))), (41, (.ite (true && ((!decide (p0.kind = 5)) == false)) (.ptr 3 0)))]
 refine st 2 a11 (nx (bi (so ?_)))
 let a12 : St := a11.p [(47, (vB (decide (p0.text = [45])))), (48, (vB (decide (p0.text = [45]))))]
 refine st 2 a12 (nx ?_)
 refine cd h (fun h => ?_) fun h => ?_
 refine so ?_
 let a13 : St := a12.p [(4, (vB (decide (p1.text = [45])))), (51, (vB (decide (p1.text = [45])))), (50, (vS p1.text)), (49, (.ptr 3 1))]
 refine st 4 a13 (nx (ri (br (tr ?_))))
 injection h with h; subst h
 exact r1 (v := (vB (decide (p1.text = [45]))))
 refine so ?_
 let a14 : St := a12.p [(52, (vB (decide (p0.text = [47])))), (53, (vB (decide (p0.text = [47]))))]
 refine st 2 a14 (nx ?_)
 refine cd h (fun h => ?_) fun h => ?_
 refine so ?_
 let a15 : St := a14.p [(4, (vB (decide (p1.text = [42])))), (56, (vB (decide (p1.text = [42])))), (55, (vS p1.text)), (54, (.ptr 3 1))]
 refine st 4 a15 (nx (ri (br (tr ?_))))
 injection h with h; subst h
 exact r1 (v := (vB (decide (p1.text = [42]))))
 refine so ?_
 let a16 : St := a14.p [(57, (vB (decide (p0.text = [60])))), (58, (vB (decide (p0.text = [60]))))]
 refine st 2 a16 (nx ?_)
 refine cd h (fun h => ?_) fun h => ?_
 refine so ?_
 let a17 : St := a16.p [(60, (vS p1.text)), (59, (.ptr 3 1))]
 refine st 2 a17 (vs (fun (y : Int) => (.d (.i .u8 y))) h (fun y hy => vop_ix (b := p1.text) (k := .i64) hy (by kernel_rfl) (by kernel_rfl) (by kernel_rfl)) fun y14 h => ?_)
 let a18 : St := a17.p [(63, (vB (decide (y14 = 61)))), (62, (vB (decide (y14 = 61)))), (61, (.d (.i .u8 y14)))]
 refine st 2 a18 (gp true (decide (y14 = 61)) (.ptr 3 1) (fun hc => vl) (gp true (decide (y14 = 61)) (vS p1.text) (fun hc => vg hc) (gv true (decide (y14 = 61)) (fun (y : Int) => (.d (.i .u8 y))) h (fun y hy hc => vop_ix (b := p1.text) (k := .i64) hy (Eq.trans (b := ([(true && ((decide (y14 = 61)) == false))] : List Bool).all id) (by kernel_rfl) (all_c hc rfl)) (by kernel_rfl) (by kernel_rfl)) fun y15 h => ?_)))
 refine gp true (decide (y14 = 61)) (vB (decide (y15 = 62))) (fun hc => vg hc) (vs (fun (y : Bool) => (vB y)) h (fun y hy => vop_pickV hy (p := true) (q := (true && ((decide (y14 = 61)) == false))) (by kernel_rfl) (by kernel_rfl) (by kernel_rfl) (by kernel_rfl) (fun _ => rfl) (fun hb => gc_f rfl hb)) fun y16 h => ?_)
 let a19 : St := a18.p [(4, (vB y16)), (68, (vB y16)), (67, (.ite (true && ((decide (y14 = 61)) == false)) (vB (decide (y15 = 62))))), (66, (.ite (true && ((decide (y14 = 61)) == false)) (.d (.i .u8 y15)))), (65, (.ite (true && ((decide (y14 = 61)) == false)) (vS p1.text))), (64, (.ite (true && ((decide (y14 = 61)) == false)) (.ptr 3 1)))]
 refine st 1 a19 (nx (ri (br (tr ?_))))
 injection h with h; subst h
 exact r1 (v := (vB y16))
 refine so ?_
 let a20 : St := a16.p [(69, (vB (decide (p0.text = [62])))), (70, (vB (decide (p0.text = [62]))))]
 refine st 2 a20 (nx ?_)
 refine cd h (fun h => ?_) fun h => ?_
 refine so ?_
 let a21 : St := a20.p [(72, (vS p1.text)), (71, (.ptr 3 1))]
 refine st 2 a21 (vs (fun (y : Int) => (.d (.i .u8 y))) h (fun y hy => vop_ix (b := p1.text) (k := .i64) hy (by kernel_rfl) (by kernel_rfl) (by kernel_rfl)) fun y17 h => ?_)
 let a22 : St := a21.p [(4, (vB (decide (y17 = 61)))), (74, (vB (decide (y17 = 61)))), (73, (.d (.i .u8 y17)))]
 refine st 2 a22 (nx (ri (br (tr ?_))))
 injection h with h; subst h
 exact r1 (v := (vB (decide (y17 = 61))))
 refine ki (bn (xi (so ?_)))
 let a23 : St := a20.p [(4, (vB false))]
 refine st 1 a23 (nx (ri ?_))
 injection h with h; subst h
 exact r1 (v := (vB false))
theorem OKs_sL4Join_J1 (p0 : (List GToken)) (p1 : Bool) : (∀ (x6 : Int) (x5_9 : (List Int)) (r : (List UInt8)), sL4Join_J1 p0 p1 x6 x5_9 = some r → avc Tryz.prog acsL4Join_J1 (qsL4Join_4 r) (stsL4Join_J1 p0 p1 x6 x5_9)) ∧ (∀ (x5 : (List Int)) (x6 : Int) (r : (List UInt8)), sL4Join_L0 p0 p1 x5 x6 = some r → avc Tryz.prog acsL4Join_L0 (qsL4Join_1 r) (stsL4Join_L0 p0 p1 x5 x6)) := by
 refine sL4Join_J1.mutual_partial_correctness p0 p1 (fun x6 x5_9 r => avc Tryz.prog acsL4Join_J1 (qsL4Join_4 r) (stsL4Join_J1 p0 p1 x6 x5_9)) (fun x5 x6 r => avc Tryz.prog acsL4Join_L0 (qsL4Join_1 r) (stsL4Join_L0 p0 p1 x5 x6)) ?_ ?_
 · intro F_sL4Join_L0 OK_sL4Join_L0 x6 x5_9 r h
   delta acsL4Join_J1
   refine oi ?_
   let a17 : St := (stsL4Join_J1 p0 p1 x6 x5_9).p [(42, (vI x6)), (41, (.d (.sl 3 (p0.map cGToken)))), (40, (.osl 5 5 1 (x5_9.map cU8)))]
   refine st 3 a17 (vs (fun (y : GToken) => (.rp (cGToken y))) h (fun y hy => via (l := p0) (f := cGToken) (g := cGToken) (k := .i64) hy (fun _ => rfl)) fun y11 h => ?_)
   let a18 : St := a17.p [(44, (vGToken y11)), (43, (.rp (cGToken y11)))]
   refine st 1 a18 (cs h (OK_sTokenText y11) fun y12 h => ?_)
   refine app_step (t := 5) (l := x5_9) (m := (toBytes y12)) (f := cU8) (S' := fun y => ⟨[(46, (.osl 46 5 1 (y.map cU8))), (45, (vS y12)), (44, (vGToken y11)), (43, (.rp (cGToken y11))), (42, (vI x6)), (41, (.d (.sl 3 (p0.map cGToken)))), (40, (.d (.sl 1 (x5_9.map cU8)))), (0, (.d (.sl 3 (p0.map cGToken)))), (1, (vB p1)), (5, (.d (.sl 1 (x5_9.map cU8)))), (6, (vI x6))], []⟩) h (by kernel_rfl) (by kernel_rfl) (by kernel_rfl) (by kernel_rfl) (fun y => by kernel_rfl) ?_
   clear h; intro y13 h
   let a19 : St := ⟨[(5, (.osl 5 5 1 (y13.map cU8))), (46, (.d (.sl 1 (y13.map cU8)))), (45, (vS y12)), (44, (vGToken y11)), (43, (.rp (cGToken y11))), (42, (vI x6)), (41, (.d (.sl 3 (p0.map cGToken)))), (40, (.d (.sl 1 (x5_9.map cU8)))), (0, (.d (.sl 3 (p0.map cGToken)))), (1, (vB p1)), (5, (.d (.sl 1 (x5_9.map cU8)))), (6, (vI x6))], []⟩
   refine st 1 a19 (ni (bn (xi (oi ?_))))
   let a20 : St := a19.p [(6, (vI (IntKind.wrap .i64 (x6 + 1)))), (13, (vI (IntKind.wrap .i64 (x6 + 1)))), (12, (vI x6))]
   exact st 3 a20 (ni (loop_back (s' := stsL4Join_L0 p0 p1 y13 (IntKind.wrap .i64 (x6 + 1))) (wr [(5, .old 5)] (es (es (eo 5 (es er_nil)))) br_nil) (OK_sL4Join_L0 y13 (IntKind.wrap .i64 (x6 + 1)) _ h)))
 · intro F_sL4Join_J1 OK_sL4Join_J1 x5 x6 r h
   delta acsL4Join_L0
   refine loop_unroll (si (so ?_))
   let a3 : St := (stsL4Join_L0 p0 p1 x5 x6).p [(9, (.d (.sl 3 (p0.map cGToken)))), (8, (vI x6))]
   refine st 2 a3 (ps (vI (ln p0)) (vln (sz := 3) (l := p0) (f := cGToken)) ?_)
   let a4 : St := a3.p [(11, (vB (decide (x6 < (ln p0))))), (10, (vI (ln p0)))]
   refine st 1 a4 (nx ?_)
   refine cd h (fun h => ?_) fun h => ?_
   refine ki (xi (si (bi (si (so ?_)))))
   let a5 : St := a4.p [(15, (vI x6)), (14, (.d (.sl 3 (p0.map cGToken))))]
   refine st 2 a5 (vs (fun (y : GToken) => (.rp (cGToken y))) h (fun y hy => via (l := p0) (f := cGToken) (g := cGToken) (k := .i64) hy (fun _ => rfl)) fun y1 h => ?_)
   let a6 : St := a5.p [(17, (vGToken y1)), (16, (.rp (cGToken y1)))]
   refine st 1 a6 (cs h (OK_sTokenOk y1) fun y2 h => ?_)
   let a7 : St := a6.p [(19, (vB (!y2))), (18, (vB y2))]
   refine st 1 a7 (nx ?_)
   refine cd h (fun h => ?_) fun h => ?_
   refine so ?_
   let a8 : St := a7.p [(4, (vS []))]
   refine st 1 a8 (nx (ri (tr (br (tr (tr (br (tr ?_))))))))
   injection h with h; subst h
   exact r1 (v := (vS []))
   refine ki (xi (si (si (dops_in ?_))))
   let a9 : St := a7.p [(22, (vB (decide (0 < x6)))), (21, (vB (decide (0 < x6)))), (20, (vI x6))]
   refine dsts_ok 3 (s' := a9) (by kernel_rfl) (dgp_step (p := true) (b := (decide (0 < x6))) (v' := (vB p1)) (by kernel_rfl) rfl rfl (fun hc => vl) (dgp_step (p := true) (b := (decide (0 < x6))) (v' := (vB p1)) (by kernel_rfl) rfl rfl (fun hc => vg hc) (dgp_step (p := (true && ((decide (0 < x6)) == true))) (b := p1) (v' := (.d (.sl 3 (p0.map cGToken)))) (by kernel_rfl) rfl rfl (fun hc => vl) ?_)))
   refine dgp_step (p := (true && ((decide (0 < x6)) == true))) (b := p1) (v' := (vI x6)) (by kernel_rfl) rfl rfl (fun hc => vl) (dgp_step (p := (true && ((decide (0 < x6)) == true))) (b := p1) (v' := (vI (IntKind.wrap .i64 (x6 - 1)))) (by kernel_rfl) rfl rfl (fun hc => vg hc) ?_)
   refine dgv_step (p := (true && ((decide (0 < x6)) == true))) (b := p1) (m := idx p0 (IntKind.wrap .i64 (x6 - 1))) (dflt := default) (v' := fun y => (.rp (cGToken y))) h (by kernel_rfl) rfl rfl (fun y hy hc => vop_ia (l := p0) (f := cGToken) (g := cGToken) (k := .i64) hy (fun _ => rfl) (Eq.trans (b := ([((true && ((decide (0 < x6)) == true)) && (p1 == false)), ((true && ((decide (0 < x6)) == true)) && (p1 == false))] : List Bool).all id) (by kernel_rfl) (all_c hc (all_c hc rfl))) (by kernel_rfl) (by kernel_rfl)) ?_
   clear h; intro y3 h
   refine dgp_step (p := (true && ((decide (0 < x6)) == true))) (b := p1) (v' := (vGToken y3)) (by kernel_rfl) rfl rfl (fun hc => vg hc) (dgp_step (p := (true && ((decide (0 < x6)) == true))) (b := p1) (v' := (.d (.sl 3 (p0.map cGToken)))) (by kernel_rfl) rfl rfl (fun hc => vl) (dgp_step (p := (true && ((decide (0 < x6)) == true))) (b := p1) (v' := (vI x6)) (by kernel_rfl) rfl rfl (fun hc => vl) ?_))
   refine dgv_step (p := (true && ((decide (0 < x6)) == true))) (b := p1) (m := idx p0 x6) (dflt := default) (v' := fun y => (.rp (cGToken y))) h (by kernel_rfl) rfl rfl (fun y hy hc => vop_ia (l := p0) (f := cGToken) (g := cGToken) (k := .i64) hy (fun _ => rfl) (Eq.trans (b := ([((true && ((decide (0 < x6)) == true)) && (p1 == false)), ((true && ((decide (0 < x6)) == true)) && (p1 == false))] : List Bool).all id) (by kernel_rfl) (all_c hc (all_c hc rfl))) (by kernel_rfl) (by kernel_rfl)) ?_
   clear h; intro y4 h
   refine dgp_step (p := (true && ((decide (0 < x6)) == true))) (b := p1) (v' := (vGToken y4)) (by kernel_rfl) rfl rfl (fun hc => vg hc) ?_
   refine dgcall_step (p := (true && ((decide (0 < x6)) == true))) (b := p1) (m := sNeedsGap y3 y4) (dflt := default) (args := [(vGToken y3), (vGToken y4)]) (v' := (fun y => (vB y))) h (by kernel_rfl) (OK_sNeedsGap y3 y4) (fun hc => by kernel_rfl) (by kernel_rfl) (fun _ => rfl) (fun hc => (Eq.trans (b := ([((true && ((decide (0 < x6)) == true)) && (p1 == false)), ((true && ((decide (0 < x6)) == true)) && (p1 == false))] : List Bool).all id) (by kernel_rfl) (all_c hc (all_c hc rfl)))) ?_
   clear h; intro y5 h
   refine dgv_step (p := true) (b := (decide (0 < x6))) (m := some (if p1 = true then true else y5)) (dflt := default) (v' := fun y => (vB y)) h (by kernel_rfl) rfl rfl (fun y hy hc => vop_pickV hy (p := true) (q := ((true && ((decide (0 < x6)) == true)) && (p1 == false))) (Eq.trans (b := ([(true && ((decide (0 < x6)) == true))] : List Bool).all id) (by kernel_rfl) (all_c hc rfl)) (by kernel_rfl) (by kernel_rfl) (by kernel_rfl) (fun _ => rfl) (fun hb => gc_f hc hb)) ?_
   clear h; intro y6 h
   refine dv_step (m := some (if (decide (0 < x6)) = true then y6 else false)) (v' := fun y => (vB y)) h rfl rfl (fun y hy => vop_pickV hy (p := (true && ((decide (0 < x6)) == true))) (q := true) (by kernel_rfl) (by kernel_rfl) (by kernel_rfl) (by kernel_rfl) (fun hb => gc_t rfl hb) (fun _ => rfl)) ?_
   clear h; intro y7 h
   refine dnil_in (by kernel_rfl) (by kernel_rfl) (xi ?_)
   refine cd h (fun h => ?_) fun h => ?_
   refine oi ?_
   let a10 : St := a9.p [(37, (.osl 5 5 1 (x5.map cU8))), (36, (vB y7)), (35, (.ite (true && ((decide (0 < x6)) == true)) (vB y6))), (34, (.ite ((true && ((decide (0 < x6)) == true)) && (p1 == false)) (vB y5))), (33, (.ite ((true && ((decide (0 < x6)) == true)) && (p1 == false)) (vGToken y4))), (32, (.ite ((true && ((decide (0 < x6)) == true)) && (p1 == false)) (.rp (cGToken y4)))), (31, (.ite ((true && ((decide (0 < x6)) == true)) && (p1 == false)) (vI x6))), (30, (.ite ((true && ((decide (0 < x6)) == true)) && (p1 == false)) (.d (.sl 3 (p0.map cGToken))))), (29, (.ite ((true && ((decide (0 < x6)) == true)) && (p1 == false)) (vGToken y3))), (28, (.ite ((true && ((decide (0 < x6)) == true)) && (p1 == false)) (.rp (cGToken y3)))), (27, (.ite ((true && ((decide (0 < x6)) == true)) && (p1 == false)) (vI (IntKind.wrap .i64 (x6 - 1))))), (26, (.ite ((true && ((decide (0 < x6)) == true)) && (p1 == false)) (vI x6))), (25, (.ite ((true && ((decide (0 < x6)) == true)) && (p1 == false)) (.d (.sl 3 (p0.map cGToken))))), (24, (.ite (true && ((decide (0 < x6)) == true)) (vB p1))), (23, (.ite (true && ((decide (0 < x6)) == true)) (vB p1)))]
   refine st 1 a10 (bsl_step (l := ([32] : List Int)) (f := cU8) (g := cU8) (by kernel_rfl) (fun _ => rfl) (by kernel_rfl) ?_)
   refine app_step (t := 5) (l := x5) (m := ([32] : List Int)) (f := cU8) (S' := fun y => ⟨[(39, (.osl 39 5 1 (y.map cU8))), (38, (.osl 38 5 1 (([32] : List Int).map cU8))), (37, (.d (.sl 1 (x5.map cU8)))), (36, (vB y7)), (35, (.ite (true && ((decide (0 < x6)) == true)) (vB y6))), (34, (.ite ((true && ((decide (0 < x6)) == true)) && (p1 == false)) (vB y5))), (33, (.ite ((true && ((decide (0 < x6)) == true)) && (p1 == false)) (vGToken y4))), (32, (.ite ((true && ((decide (0 < x6)) == true)) && (p1 == false)) (.rp (cGToken y4)))), (31, (.ite ((true && ((decide (0 < x6)) == true)) && (p1 == false)) (vI x6))), (30, (.ite ((true && ((decide (0 < x6)) == true)) && (p1 == false)) (.d (.sl 3 (p0.map cGToken))))), (29, (.ite ((true && ((decide (0 < x6)) == true)) && (p1 == false)) (vGToken y3))), (28, (.ite ((true && ((decide (0 < x6)) == true)) && (p1 == false)) (.rp (cGToken y3)))), (27, (.ite ((true && ((decide (0 < x6)) == true)) && (p1 == false)) (vI (IntKind.wrap .i64 (x6 - 1))))), (26, (.ite ((true && ((decide (0 < x6)) == true)) && (p1 == false)) (vI x6))), (25, (.ite ((true && ((decide (0 < x6)) == true)) && (p1 == false)) (.d (.sl 3 (p0.map cGToken))))), (24, (.ite (true && ((decide (0 < x6)) == true)) (vB p1))), (23, (.ite (true && ((decide (0 < x6)) == true)) (vB p1))), (22, (vB (decide (0 < x6)))), (21, (vB (decide (0 < x6)))), (20, (vI x6)), (19, (vB (!y2))), (18, (vB y2)), (17, (vGToken y1)), (16, (.rp (cGToken y1))), (15, (vI x6)), (14, (.d (.sl 3 (p0.map cGToken)))), (11, (vB (decide (x6 < (ln p0))))), (10, (vI (ln p0))), (9, (.d (.sl 3 (p0.map cGToken)))), (8, (vI x6)), (0, (.d (.sl 3 (p0.map cGToken)))), (1, (vB p1)), (5, (.d (.sl 1 (x5.map cU8)))), (6, (vI x6))], []⟩) h (by kernel_rfl) (by kernel_rfl) (by kernel_rfl) (by kernel_rfl) (fun y => by kernel_rfl) ?_
   clear h; intro y8 h
   let a11 : St := ⟨[(5, (.osl 5 5 1 (y8.map cU8))), (39, (.d (.sl 1 (y8.map cU8)))), (38, (.osl 38 5 1 (([32] : List Int).map cU8))), (37, (.d (.sl 1 (x5.map cU8)))), (36, (vB y7)), (35, (.ite (true && ((decide (0 < x6)) == true)) (vB y6))), (34, (.ite ((true && ((decide (0 < x6)) == true)) && (p1 == false)) (vB y5))), (33, (.ite ((true && ((decide (0 < x6)) == true)) && (p1 == false)) (vGToken y4))), (32, (.ite ((true && ((decide (0 < x6)) == true)) && (p1 == false)) (.rp (cGToken y4)))), (31, (.ite ((true && ((decide (0 < x6)) == true)) && (p1 == false)) (vI x6))), (30, (.ite ((true && ((decide (0 < x6)) == true)) && (p1 == false)) (.d (.sl 3 (p0.map cGToken))))), (29, (.ite ((true && ((decide (0 < x6)) == true)) && (p1 == false)) (vGToken y3))), (28, (.ite ((true && ((decide (0 < x6)) == true)) && (p1 == false)) (.rp (cGToken y3)))), (27, (.ite ((true && ((decide (0 < x6)) == true)) && (p1 == false)) (vI (IntKind.wrap .i64 (x6 - 1))))), (26, (.ite ((true && ((decide (0 < x6)) == true)) && (p1 == false)) (vI x6))), (25, (.ite ((true && ((decide (0 < x6)) == true)) && (p1 == false)) (.d (.sl 3 (p0.map cGToken))))), (24, (.ite (true && ((decide (0 < x6)) == true)) (vB p1))), (23, (.ite (true && ((decide (0 < x6)) == true)) (vB p1))), (22, (vB (decide (0 < x6)))), (21, (vB (decide (0 < x6)))), (20, (vI x6)), (19, (vB (!y2))), (18, (vB y2)), (17, (vGToken y1)), (16, (.rp (cGToken y1))), (15, (vI x6)), (14, (.d (.sl 3 (p0.map cGToken)))), (11, (vB (decide (x6 < (ln p0))))), (10, (vI (ln p0))), (9, (.d (.sl 3 (p0.map cGToken)))), (8, (vI x6)), (0, (.d (.sl 3 (p0.map cGToken)))), (1, (vB p1)), (5, (.d (.sl 1 (x5.map cU8)))), (6, (vI x6))], []⟩
   exact st 1 a11 (ni (next_step (s' := stsL4Join_J1 p0 p1 x6 y8) (wr [(5, .old 5)] (es (es (eo 5 (es er_nil)))) br_nil) (OK_sL4Join_J1 x6 y8 _ h)))
   exact ki (next_step (s' := stsL4Join_J1 p0 p1 x6 x5) (wr [(5, .old 5)] (es (es (eo 5 (es er_nil)))) br_nil) (OK_sL4Join_J1 x6 x5 _ h))
   refine ei (te (te (bh (xi (si (so ?_))))))
   let a12 : St := a4.p [(47, (.osl 5 5 1 (x5.map cU8)))]
   refine st 1 a12 (ps (vI (ln x5)) (vln (sz := 1) (l := x5) (f := cU8)) ?_)
   let a13 : St := a12.p [(49, (vB (decide (2000 < (ln x5))))), (48, (vI (ln x5)))]
   refine st 1 a13 (nx ?_)
   refine cd h (fun h => ?_) fun h => ?_
   refine so ?_
   let a14 : St := a13.p [(4, (vS []))]
   refine st 1 a14 (nx (ri (tr ?_)))
   injection h with h; subst h
   exact r1 (v := (vS []))
   refine ki (xi (so ?_))
   let a15 : St := a13.p [(50, (.osl 5 5 1 (x5.map cU8)))]
   refine st 1 a15 (vs (fun (y : (List UInt8)) => (vS y)) h (fun y hy => vop_cbs (l := x5) hy (by kernel_rfl) (by kernel_rfl)) fun y10 h => ?_)
   let a16 : St := a15.p [(4, (vS y10)), (51, (vS y10))]
   refine st 1 a16 (nx (ri ?_))
   injection h with h; subst h
   exact r1 (v := (vS y10))
theorem OK_sL4Join_J1 (p0 : (List GToken)) (p1 : Bool) (x6 : Int) (x5_9 : (List Int)) (r : (List UInt8)) (h : sL4Join_J1 p0 p1 x6 x5_9 = some r) : avc Tryz.prog acsL4Join_J1 (qsL4Join_4 r) (stsL4Join_J1 p0 p1 x6 x5_9) := (OKs_sL4Join_J1 p0 p1).1 x6 x5_9 r h
theorem OK_sL4Join_L0 (p0 : (List GToken)) (p1 : Bool) (x5 : (List Int)) (x6 : Int) (r : (List UInt8)) (h : sL4Join_L0 p0 p1 x5 x6 = some r) : avc Tryz.prog acsL4Join_L0 (qsL4Join_1 r) (stsL4Join_L0 p0 p1 x5 x6) := (OKs_sL4Join_J1 p0 p1).2 x5 x6 r h
theorem OK_sL4Join (p0 : (List GToken)) (p1 : Bool) : FOk Tryz.prog 29 [(.d (.sl 3 (p0.map cGToken))), (vB p1)] (fun y => (vS y)) (sL4Join p0 p1) := by
 intro r h
 rw [sL4Join] at h
 refine aof trsL4Join ?_
 show avc Tryz.prog acsL4Join (qsL4Join _) ⟨[(0, (.d (.sl 3 (p0.map cGToken)))), (1, (vB p1))], []⟩
 delta acsL4Join
 refine so ?_
 let a0 : St := ⟨[(4, (vS [])), (0, (.d (.sl 3 (p0.map cGToken)))), (1, (vB p1))], []⟩
 refine st 1 a0 (nx (so (bsl_step (l := ([] : List Int)) (f := cU8) (g := cU8) (by kernel_rfl) (fun _ => rfl) (by kernel_rfl) ?_)))
 let a1 : St := a0.p [(5, (.osl 5 5 1 (([] : List Int).map cU8))), (7, (.d (.sl 1 (([] : List Int).map cU8))))]
 refine st 1 a1 (nx (si (so ?_)))
 let a2 : St := a1.p [(6, (vI 0))]
 exact st 1 a2 (nx (bi (loop_go (s' := stsL4Join_L0 p0 p1 ([] : List Int) 0) (wr [(5, .old 5)] (es (es (eo 5 (es er_nil)))) br_nil) (OK_sL4Join_L0 p0 p1 ([] : List Int) 0 _ h))))
theorem OK_sSpaced (p0 : (List GToken)) : FOk Tryz.prog 14 [(.d (.sl 3 (p0.map cGToken)))] (fun y => (vS y)) (sSpaced p0) := by
 intro r h
 rw [sSpaced] at h
 refine aof trsSpaced ?_
 show avc Tryz.prog acsSpaced (qsSpaced _) ⟨[(0, (.d (.sl 3 (p0.map cGToken))))], []⟩
 delta acsSpaced
 refine so ?_
 let a0 : St := ⟨[(2, (vS [])), (0, (.d (.sl 3 (p0.map cGToken))))], []⟩
 refine st 1 a0 (nx (so ?_))
 let a1 : St := a0.p [(3, (.d (.sl 3 (p0.map cGToken))))]
 refine st 1 a1 (cs h (OK_sL4Join p0 false) fun y1 h => ?_)
 let a2 : St := a1.p [(2, (vS y1)), (4, (vS y1))]
 refine st 1 a2 (nx (ri ?_))
 injection h with h; subst h
 exact r1 (v := (vS y1))
theorem OK_sCatalogText (p0 : GCatalog) : FOk Tryz.prog 23 [(vGCatalog p0)] (fun y => (vS y)) (sCatalogText p0) := by
 intro r h
 rw [sCatalogText] at h
 refine aof trsCatalogText ?_
 show avc Tryz.prog acsCatalogText (qsCatalogText _) ⟨[(0, (vGCatalog p0))], []⟩
 delta acsCatalogText
 refine so ?_
 let a0 : St := ⟨[(2, (vS [])), (1, (.ptr 1 0)), (0, (vGCatalog p0))], [(1, bGCatalog p0)]⟩
 refine st 2 a0 (nx (si (so ?_)))
 let a1 : St := a0.p [(3, (vGCatalog p0))]
 refine st 1 a1 (cs h (OK_sCatalogOk p0) fun y1 h => ?_)
 let a2 : St := a1.p [(5, (vB (!y1))), (4, (vB y1))]
 refine st 1 a2 (nx ?_)
 refine cd h (fun h => ?_) fun h => ?_
 refine so ?_
 let a3 : St := a2.p [(2, (vS []))]
 refine st 1 a3 (nx (ri (tr ?_)))
 injection h with h; subst h
 exact r1 (v := (vS []))
 refine ki (xi (so ?_))
 let a4 : St := a2.p [(6, (vGCatalog p0))]
 refine st 1 a4 (callg_step ⟨[], [], [], [], [], [(2000000, 7)], [], [7], []⟩ (m := sL16Tokens p0) (S' := fun (y : (List GToken)) => ⟨(7, (.osl 7 53 3 (y.map cGToken))) :: a4.env, a4.bx⟩) h (OK_sL16Tokens p0) (by kernel_rfl) (by kernel_rfl) (by kernel_rfl) (by kernel_rfl) (fun y => by kernel_rfl) (fun y => by kernel_rfl) ?_)
 clear h; intro y2 h
 refine cs h (OK_sSpaced y2) fun y3 h => ?_
 let a5 : St := a4.p [(2, (vS y3)), (8, (vS y3)), (7, (.osl 7 53 3 (y2.map cGToken)))]
 refine st 1 a5 (nx (ri ?_))
 injection h with h; subst h
 exact r1 (v := (vS y3))
theorem OK_wEqCol (p0 : GCol) (p1 : GCol) : FOk Tryz.prog 149 [(vGCol p0), (vGCol p1)] (fun y => (vB y)) (wEqCol p0 p1) := by
 intro r h
 rw [wEqCol] at h
 refine aof trwEqCol ?_
 show avc Tryz.prog acwEqCol (qwEqCol _) ⟨[(0, (vGCol p0)), (1, (vGCol p1))], []⟩
 delta acwEqCol
 refine so ?_
 let a0 : St := ⟨[(4, (vB false)), (3, (.ptr 3 0)), (2, (.ptr 2 0)), (0, (vGCol p0)), (1, (vGCol p1))], [(3, bGCol p1), (2, bGCol p0)]⟩
 refine st 3 a0 (nx (si (so ?_)))
 let a1 : St := a0.p [(9, (vB (!decide (p0.name = p1.name)))), (8, (vS p1.name)), (7, (.ptr 3 0)), (6, (vS p0.name)), (5, (.ptr 2 0))]
 refine st 5 a1 (nx ?_)
 refine cd h (fun h => ?_) fun h => ?_
 refine so ?_
 let a2 : St := a1.p [(4, (vB false))]
 refine st 1 a2 (nx (ri (tr ?_)))
 injection h with h; subst h
 exact r1 (v := (vB false))
 refine ki (xi (si (so ?_)))
 let a3 : St := a1.p [(14, (vB (!decide (p0.type = p1.type)))), (13, (vI p1.type)), (12, (.ptr 3 1)), (11, (vI p0.type)), (10, (.ptr 2 1))]
 refine st 5 a3 (nx ?_)
 refine cd h (fun h => ?_) fun h => ?_
 refine so ?_
 let a4 : St := a3.p [(4, (vB false))]
 refine st 1 a4 (nx (ri (tr ?_)))
 injection h with h; subst h
 exact r1 (v := (vB false))
 refine ki (xi (so ?_))
 let a5 : St := a3.p [(4, (vB true))]
 refine st 1 a5 (nx (ri ?_))
 injection h with h; subst h
 exact r1 (v := (vB true))
theorem OKs_wEqColS_L0 (p0 : (List GCol)) (p1 : (List GCol)) : (∀ (x5 : Int) (r : Bool), wEqColS_L0 p0 p1 x5 = some r → avc Tryz.prog acwEqColS_L0 (qwEqColS_1 r) (stwEqColS_L0 p0 p1 x5)) := by
 refine wEqColS_L0.partial_correctness p0 p1 (fun x5 r => avc Tryz.prog acwEqColS_L0 (qwEqColS_1 r) (stwEqColS_L0 p0 p1 x5)) ?_
 · intro F_wEqColS_L0 OK_wEqColS_L0 x5 r h
   delta acwEqColS_L0
   refine loop_unroll (si (so ?_))
   let a6 : St := (stwEqColS_L0 p0 p1 x5).p [(12, (.d (.sl 2 (p0.map cGCol)))), (11, (vI x5))]
   refine st 2 a6 (ps (vI (ln p0)) (vln (sz := 2) (l := p0) (f := cGCol)) ?_)
   let a7 : St := a6.p [(14, (vB (decide (x5 < (ln p0))))), (13, (vI (ln p0)))]
   refine st 1 a7 (nx ?_)
   refine cd h (fun h => ?_) fun h => ?_
   refine ki (xi (si (bi (si (dops_in ?_)))))
   let a8 : St := a7.p [(18, (vI x5)), (17, (.d (.sl 2 (p0.map cGCol))))]
   refine dsts_ok 2 (s' := a8) (by kernel_rfl) (dv_step (m := idx p0 x5) (v' := fun y => (.rp (cGCol y))) h rfl rfl (fun y hy => via (l := p0) (f := cGCol) (g := cGCol) (k := .i64) hy (fun _ => rfl)) ?_)
   clear h; intro y1 h
   let a9 : St := a8.p [(22, (vI x5)), (21, (.d (.sl 2 (p1.map cGCol)))), (20, (vGCol y1)), (19, (.rp (cGCol y1)))]
   refine dsts_ok 3 (s' := a9) (by kernel_rfl) (dv_step (m := idx p1 x5) (v' := fun y => (.rp (cGCol y))) h rfl rfl (fun y hy => via (l := p1) (f := cGCol) (g := cGCol) (k := .i64) hy (fun _ => rfl)) ?_)
   clear h; intro y2 h
   let a10 : St := a9.p [(24, (vGCol y2)), (23, (.rp (cGCol y2)))]
   refine dsts_ok 1 (s' := a10) (by kernel_rfl) (dcall_step (m := wEqCol y1 y2) (args := [(vGCol y1), (vGCol y2)]) (v' := (fun y => (vB y))) h (OK_wEqCol y1 y2) (by kernel_rfl) (by kernel_rfl) (fun _ => rfl) ?_)
   clear h; intro y3 h
   let a11 : St := a10.p [(26, (vB (!y3))), (25, (vB y3))]
   refine dsts_ok 1 (s' := a11) (by kernel_rfl) (dnil_in (by kernel_rfl) (by kernel_rfl) (xi ?_))
   refine cd h (fun h => ?_) fun h => ?_
   refine so ?_
   let a12 : St := a11.p [(4, (vB false))]
   refine st 1 a12 (nx (ri (br (tr (tr (br (tr ?_)))))))
   injection h with h; subst h
   exact r1 (v := (vB false))
   refine ki (bn (xi (oi ?_)))
   let a13 : St := a11.p [(5, (vI (IntKind.wrap .i64 (x5 + 1)))), (16, (vI (IntKind.wrap .i64 (x5 + 1)))), (15, (vI x5))]
   exact st 3 a13 (ni (loop_back (s' := stwEqColS_L0 p0 p1 (IntKind.wrap .i64 (x5 + 1))) (wr [] (es (es (es er_nil))) br_nil) (OK_wEqColS_L0 (IntKind.wrap .i64 (x5 + 1)) _ h)))
   refine ei (te (te (bh (xi (so ?_)))))
   let a14 : St := a7.p [(4, (vB true))]
   refine st 1 a14 (nx (ri ?_))
   injection h with h; subst h
   exact r1 (v := (vB true))
theorem OK_wEqColS_L0 (p0 : (List GCol)) (p1 : (List GCol)) (x5 : Int) (r : Bool) (h : wEqColS_L0 p0 p1 x5 = some r) : avc Tryz.prog acwEqColS_L0 (qwEqColS_1 r) (stwEqColS_L0 p0 p1 x5) := (OKs_wEqColS_L0 p0 p1) x5 r h
theorem OK_wEqColS (p0 : (List GCol)) (p1 : (List GCol)) : FOk Tryz.prog 126 [(.d (.sl 2 (p0.map cGCol))), (.d (.sl 2 (p1.map cGCol)))] (fun y => (vB y)) (wEqColS p0 p1) := by
 intro r h
 rw [wEqColS] at h
 refine aof trwEqColS ?_
 show avc Tryz.prog acwEqColS (qwEqColS _) ⟨[(0, (.d (.sl 2 (p0.map cGCol)))), (1, (.d (.sl 2 (p1.map cGCol))))], []⟩
 delta acwEqColS
 refine so ?_
 let a0 : St := ⟨[(4, (vB false)), (0, (.d (.sl 2 (p0.map cGCol)))), (1, (.d (.sl 2 (p1.map cGCol))))], []⟩
 refine st 1 a0 (nx (si (so ?_)))
 let a1 : St := a0.p [(6, (.d (.sl 2 (p0.map cGCol))))]
 refine st 1 a1 (ps (vI (ln p0)) (vln (sz := 2) (l := p0) (f := cGCol)) ?_)
 let a2 : St := a1.p [(8, (.d (.sl 2 (p1.map cGCol)))), (7, (vI (ln p0)))]
 refine st 1 a2 (ps (vI (ln p1)) (vln (sz := 2) (l := p1) (f := cGCol)) ?_)
 let a3 : St := a2.p [(10, (vB (!decide ((ln p0) = (ln p1))))), (9, (vI (ln p1)))]
 refine st 1 a3 (nx ?_)
 refine cd h (fun h => ?_) fun h => ?_
 refine so ?_
 let a4 : St := a3.p [(4, (vB false))]
 refine st 1 a4 (nx (ri (tr ?_)))
 injection h with h; subst h
 exact r1 (v := (vB false))
 refine ki (xi (si (so ?_)))
 let a5 : St := a3.p [(5, (vI 0))]
 exact st 1 a5 (nx (bi (loop_go (s' := stwEqColS_L0 p0 p1 0) (wr [] (es (es (es er_nil))) br_nil) (OK_wEqColS_L0 p0 p1 0 _ h))))
theorem OK_wEqTable (p0 : GTable) (p1 : GTable) : FOk Tryz.prog 88 [(vGTable p0), (vGTable p1)] (fun y => (vB y)) (wEqTable p0 p1) := by
 intro r h
 rw [wEqTable] at h
 refine aof trwEqTable ?_
 show avc Tryz.prog acwEqTable (qwEqTable _) ⟨[(0, (vGTable p0)), (1, (vGTable p1))], []⟩
 delta acwEqTable
 refine so ?_
 let a0 : St := ⟨[(4, (vB false)), (3, (.ptr 3 0)), (2, (.ptr 2 0)), (0, (vGTable p0)), (1, (vGTable p1))], [(3, bGTable p1), (2, bGTable p0)]⟩
 refine st 3 a0 (nx (si (so ?_)))
 let a1 : St := a0.p [(9, (vB (!decide (p0.name = p1.name)))), (8, (vS p1.name)), (7, (.ptr 3 0)), (6, (vS p0.name)), (5, (.ptr 2 0))]
 refine st 5 a1 (nx ?_)
 refine cd h (fun h => ?_) fun h => ?_
 refine so ?_
 let a2 : St := a1.p [(4, (vB false))]
 refine st 1 a2 (nx (ri (tr ?_)))
 injection h with h; subst h
 exact r1 (v := (vB false))
 refine ki (xi (si (so ?_)))
 let a3 : St := a1.p [(13, (.d (.sl 2 (p1.cols.map cGCol)))), (12, (.ptr 3 1)), (11, (.d (.sl 2 (p0.cols.map cGCol)))), (10, (.ptr 2 1))]
 refine st 4 a3 (cs h (OK_wEqColS p0.cols p1.cols) fun y1 h => ?_)
 let a4 : St := a3.p [(15, (vB (!y1))), (14, (vB y1))]
 refine st 1 a4 (nx ?_)
 refine cd h (fun h => ?_) fun h => ?_
 refine so ?_
 let a5 : St := a4.p [(4, (vB false))]
 refine st 1 a5 (nx (ri (tr ?_)))
 injection h with h; subst h
 exact r1 (v := (vB false))
 refine ki (xi (so ?_))
 let a6 : St := a4.p [(4, (vB true))]
 refine st 1 a6 (nx (ri ?_))
 injection h with h; subst h
 exact r1 (v := (vB true))
theorem OKs_wEqTableS_L0 (p0 : (List GTable)) (p1 : (List GTable)) : (∀ (x5 : Int) (r : Bool), wEqTableS_L0 p0 p1 x5 = some r → avc Tryz.prog acwEqTableS_L0 (qwEqTableS_1 r) (stwEqTableS_L0 p0 p1 x5)) := by
 refine wEqTableS_L0.partial_correctness p0 p1 (fun x5 r => avc Tryz.prog acwEqTableS_L0 (qwEqTableS_1 r) (stwEqTableS_L0 p0 p1 x5)) ?_
 · intro F_wEqTableS_L0 OK_wEqTableS_L0 x5 r h
   delta acwEqTableS_L0
   refine loop_unroll (si (so ?_))
   let a6 : St := (stwEqTableS_L0 p0 p1 x5).p [(12, (.d (.sl 2 (p0.map cGTable)))), (11, (vI x5))]
   refine st 2 a6 (ps (vI (ln p0)) (vln (sz := 2) (l := p0) (f := cGTable)) ?_)
   let a7 : St := a6.p [(14, (vB (decide (x5 < (ln p0))))), (13, (vI (ln p0)))]
   refine st 1 a7 (nx ?_)
   refine cd h (fun h => ?_) fun h => ?_
   refine ki (xi (si (bi (si (dops_in ?_)))))
   let a8 : St := a7.p [(18, (vI x5)), (17, (.d (.sl 2 (p0.map cGTable))))]
   refine dsts_ok 2 (s' := a8) (by kernel_rfl) (dv_step (m := idx p0 x5) (v' := fun y => (.rp (cGTable y))) h rfl rfl (fun y hy => via (l := p0) (f := cGTable) (g := cGTable) (k := .i64) hy (fun _ => rfl)) ?_)
   clear h; intro y1 h
   let a9 : St := a8.p [(22, (vI x5)), (21, (.d (.sl 2 (p1.map cGTable)))), (20, (vGTable y1)), (19, (.rp (cGTable y1)))]
   refine dsts_ok 3 (s' := a9) (by kernel_rfl) (dv_step (m := idx p1 x5) (v' := fun y => (.rp (cGTable y))) h rfl rfl (fun y hy => via (l := p1) (f := cGTable) (g := cGTable) (k := .i64) hy (fun _ => rfl)) ?_)
   clear h; intro y2 h
   let a10 : St := a9.p [(24, (vGTable y2)), (23, (.rp (cGTable y2)))]
   refine dsts_ok 1 (s' := a10) (by kernel_rfl) (dcall_step (m := wEqTable y1 y2) (args := [(vGTable y1), (vGTable y2)]) (v' := (fun y => (vB y))) h (OK_wEqTable y1 y2) (by kernel_rfl) (by kernel_rfl) (fun _ => rfl) ?_)
   clear h; intro y3 h
   let a11 : St := a10.p [(26, (vB (!y3))), (25, (vB y3))]
   refine dsts_ok 1 (s' := a11) (by kernel_rfl) (dnil_in (by kernel_rfl) (by kernel_rfl) (xi ?_))
   refine cd h (fun h => ?_) fun h => ?_
   refine so ?_
   let a12 : St := a11.p [(4, (vB false))]
   refine st 1 a12 (nx (ri (br (tr (tr (br (tr ?_)))))))
   injection h with h; subst h
   exact r1 (v := (vB false))
   refine ki (bn (xi (oi ?_)))
   let a13 : St := a11.p [(5, (vI (IntKind.wrap .i64 (x5 + 1)))), (16, (vI (IntKind.wrap .i64 (x5 + 1)))), (15, (vI x5))]
   exact st 3 a13 (ni (loop_back (s' := stwEqTableS_L0 p0 p1 (IntKind.wrap .i64 (x5 + 1))) (wr [] (es (es (es er_nil))) br_nil) (OK_wEqTableS_L0 (IntKind.wrap .i64 (x5 + 1)) _ h)))
   refine ei (te (te (bh (xi (so ?_)))))
   let a14 : St := a7.p [(4, (vB true))]
   refine st 1 a14 (nx (ri ?_))
   injection h with h; subst h
   exact r1 (v := (vB true))
theorem OK_wEqTableS_L0 (p0 : (List GTable)) (p1 : (List GTable)) (x5 : Int) (r : Bool) (h : wEqTableS_L0 p0 p1 x5 = some r) : avc Tryz.prog acwEqTableS_L0 (qwEqTableS_1 r) (stwEqTableS_L0 p0 p1 x5) := (OKs_wEqTableS_L0 p0 p1) x5 r h
theorem OK_wEqTableS (p0 : (List GTable)) (p1 : (List GTable)) : FOk Tryz.prog 46 [(.d (.sl 2 (p0.map cGTable))), (.d (.sl 2 (p1.map cGTable)))] (fun y => (vB y)) (wEqTableS p0 p1) := by
 intro r h
 rw [wEqTableS] at h
 refine aof trwEqTableS ?_
 show avc Tryz.prog acwEqTableS (qwEqTableS _) ⟨[(0, (.d (.sl 2 (p0.map cGTable)))), (1, (.d (.sl 2 (p1.map cGTable))))], []⟩
 delta acwEqTableS
 refine so ?_
 let a0 : St := ⟨[(4, (vB false)), (0, (.d (.sl 2 (p0.map cGTable)))), (1, (.d (.sl 2 (p1.map cGTable))))], []⟩
 refine st 1 a0 (nx (si (so ?_)))
 let a1 : St := a0.p [(6, (.d (.sl 2 (p0.map cGTable))))]
 refine st 1 a1 (ps (vI (ln p0)) (vln (sz := 2) (l := p0) (f := cGTable)) ?_)
 let a2 : St := a1.p [(8, (.d (.sl 2 (p1.map cGTable)))), (7, (vI (ln p0)))]
 refine st 1 a2 (ps (vI (ln p1)) (vln (sz := 2) (l := p1) (f := cGTable)) ?_)
 let a3 : St := a2.p [(10, (vB (!decide ((ln p0) = (ln p1))))), (9, (vI (ln p1)))]
 refine st 1 a3 (nx ?_)
 refine cd h (fun h => ?_) fun h => ?_
 refine so ?_
 let a4 : St := a3.p [(4, (vB false))]
 refine st 1 a4 (nx (ri (tr ?_)))
 injection h with h; subst h
 exact r1 (v := (vB false))
 refine ki (xi (si (so ?_)))
 let a5 : St := a3.p [(5, (vI 0))]
 exact st 1 a5 (nx (bi (loop_go (s' := stwEqTableS_L0 p0 p1 0) (wr [] (es (es (es er_nil))) br_nil) (OK_wEqTableS_L0 p0 p1 0 _ h))))
theorem OK_wEqCatalog (p0 : GCatalog) (p1 : GCatalog) : FOk Tryz.prog 26 [(vGCatalog p0), (vGCatalog p1)] (fun y => (vB y)) (wEqCatalog p0 p1) := by
 intro r h
 rw [wEqCatalog] at h
 refine aof trwEqCatalog ?_
 show avc Tryz.prog acwEqCatalog (qwEqCatalog _) ⟨[(0, (vGCatalog p0)), (1, (vGCatalog p1))], []⟩
 delta acwEqCatalog
 refine so ?_
 let a0 : St := ⟨[(4, (vB false)), (3, (.ptr 3 0)), (2, (.ptr 2 0)), (0, (vGCatalog p0)), (1, (vGCatalog p1))], [(3, bGCatalog p1), (2, bGCatalog p0)]⟩
 refine st 3 a0 (nx (si (so ?_)))
 let a1 : St := a0.p [(8, (.d (.sl 2 (p1.tables.map cGTable)))), (7, (.ptr 3 0)), (6, (.d (.sl 2 (p0.tables.map cGTable)))), (5, (.ptr 2 0))]
 refine st 4 a1 (cs h (OK_wEqTableS p0.tables p1.tables) fun y1 h => ?_)
 let a2 : St := a1.p [(10, (vB (!y1))), (9, (vB y1))]
 refine st 1 a2 (nx ?_)
 refine cd h (fun h => ?_) fun h => ?_
 refine so ?_
 let a3 : St := a2.p [(4, (vB false))]
 refine st 1 a3 (nx (ri (tr ?_)))
 injection h with h; subst h
 exact r1 (v := (vB false))
 refine ki (xi (so ?_))
 let a4 : St := a2.p [(4, (vB true))]
 refine st 1 a4 (nx (ri ?_))
 injection h with h; subst h
 exact r1 (v := (vB true))
theorem OK_wSzCol (p0 : GCol) (p1 : Int) : FOk Tryz.prog 145 [(vGCol p0), (vI p1)] (fun y => (vI y)) (wSzCol p0 p1) := by
 intro r h
 rw [wSzCol] at h
 refine aof trwSzCol ?_
 show avc Tryz.prog acwSzCol (qwSzCol _) ⟨[(0, (vGCol p0)), (1, (vI p1))], []⟩
 delta acwSzCol
 refine so ?_
 let a0 : St := ⟨[(4, (vI 0)), (2, (.ptr 2 0)), (0, (vGCol p0)), (1, (vI p1))], [(2, bGCol p0)]⟩
 refine st 2 a0 (nx (so ?_))
 let a1 : St := a0.p [(1, (vI (IntKind.wrap .i64 (p1 - (ln p0.name))))), (9, (vI (IntKind.wrap .i64 (p1 - (ln p0.name))))), (8, (vI (ln p0.name))), (7, (vS p0.name)), (6, (.ptr 2 0)), (5, (vI p1))]
 refine st 6 a1 (nx (si (so ?_)))
 let a2 : St := a1.p [(11, (vB (decide ((IntKind.wrap .i64 (p1 - (ln p0.name))) < 0)))), (10, (vI (IntKind.wrap .i64 (p1 - (ln p0.name)))))]
 refine st 2 a2 (nx ?_)
 refine cd h (fun h => ?_) fun h => ?_
 refine so ?_
 let a3 : St := a2.p [(4, (vI (-1)))]
 refine st 1 a3 (nx (ri (tr ?_)))
 injection h with h; subst h
 exact r1 (v := (vI (-1)))
 refine ki (xi (so ?_))
 let a4 : St := a2.p [(4, (vI (IntKind.wrap .i64 (p1 - (ln p0.name))))), (12, (vI (IntKind.wrap .i64 (p1 - (ln p0.name)))))]
 refine st 2 a4 (nx (ri ?_))
 injection h with h; subst h
 exact r1 (v := (vI (IntKind.wrap .i64 (p1 - (ln p0.name)))))
theorem OKs_wSzColS_L0 (p0 : (List GCol)) : (∀ (x1 : Int) (x5 : Int) (r : Int), wSzColS_L0 p0 x1 x5 = some r → avc Tryz.prog acwSzColS_L0 (qwSzColS_1 r) (stwSzColS_L0 p0 x1 x5)) := by
 refine wSzColS_L0.partial_correctness p0 (fun x1 x5 r => avc Tryz.prog acwSzColS_L0 (qwSzColS_1 r) (stwSzColS_L0 p0 x1 x5)) ?_
 · intro F_wSzColS_L0 OK_wSzColS_L0 x1 x5 r h
   delta acwSzColS_L0
   refine loop_unroll (si (so ?_))
   let a6 : St := (stwSzColS_L0 p0 x1 x5).p [(13, (.d (.sl 2 (p0.map cGCol)))), (12, (vI x5))]
   refine st 2 a6 (ps (vI (ln p0)) (vln (sz := 2) (l := p0) (f := cGCol)) ?_)
   let a7 : St := a6.p [(15, (vB (decide (x5 < (ln p0))))), (14, (vI (ln p0)))]
   refine st 1 a7 (nx ?_)
   refine cd h (fun h => ?_) fun h => ?_
   refine ki (xi (si (bi (so ?_))))
   let a8 : St := a7.p [(19, (vI x5)), (18, (.d (.sl 2 (p0.map cGCol))))]
   refine st 2 a8 (vs (fun (y : GCol) => (.rp (cGCol y))) h (fun y hy => via (l := p0) (f := cGCol) (g := cGCol) (k := .i64) hy (fun _ => rfl)) fun y1 h => ?_)
   let a9 : St := a8.p [(22, (vI x1)), (21, (vGCol y1)), (20, (.rp (cGCol y1)))]
   refine st 2 a9 (cs h (OK_wSzCol y1 x1) fun y2 h => ?_)
   let a10 : St := a9.p [(1, (vI y2)), (23, (vI y2))]
   refine st 1 a10 (nx (so ?_))
   let a11 : St := a10.p [(25, (vB (decide (y2 < 0)))), (24, (vI y2))]
   refine st 2 a11 (nx ?_)
   refine cd h (fun h => ?_) fun h => ?_
   refine so ?_
   let a12 : St := a11.p [(4, (vI (-1)))]
   refine st 1 a12 (nx (ri (br (tr (tr (br (tr ?_)))))))
   injection h with h; subst h
   exact r1 (v := (vI (-1)))
   refine ki (bn (xi (oi ?_)))
   let a13 : St := a11.p [(5, (vI (IntKind.wrap .i64 (x5 + 1)))), (17, (vI (IntKind.wrap .i64 (x5 + 1)))), (16, (vI x5))]
   exact st 3 a13 (ni (loop_back (s' := stwSzColS_L0 p0 y2 (IntKind.wrap .i64 (x5 + 1))) (wr [] (es (es (es er_nil))) br_nil) (OK_wSzColS_L0 y2 (IntKind.wrap .i64 (x5 + 1)) _ h)))
   refine ei (te (te (bh (xi (so ?_)))))
   let a14 : St := a7.p [(4, (vI x1)), (26, (vI x1))]
   refine st 2 a14 (nx (ri ?_))
   injection h with h; subst h
   exact r1 (v := (vI x1))
theorem OK_wSzColS_L0 (p0 : (List GCol)) (x1 : Int) (x5 : Int) (r : Int) (h : wSzColS_L0 p0 x1 x5 = some r) : avc Tryz.prog acwSzColS_L0 (qwSzColS_1 r) (stwSzColS_L0 p0 x1 x5) := (OKs_wSzColS_L0 p0) x1 x5 r h
theorem OK_wSzColS (p0 : (List GCol)) (p1 : Int) : FOk Tryz.prog 120 [(.d (.sl 2 (p0.map cGCol))), (vI p1)] (fun y => (vI y)) (wSzColS p0 p1) := by
 intro r h
 rw [wSzColS] at h
 refine aof trwSzColS ?_
 show avc Tryz.prog acwSzColS (qwSzColS _) ⟨[(0, (.d (.sl 2 (p0.map cGCol)))), (1, (vI p1))], []⟩
 delta acwSzColS
 refine so ?_
 let a0 : St := ⟨[(4, (vI 0)), (0, (.d (.sl 2 (p0.map cGCol)))), (1, (vI p1))], []⟩
 refine st 1 a0 (nx (so ?_))
 let a1 : St := a0.p [(7, (.d (.sl 2 (p0.map cGCol)))), (6, (vI p1))]
 refine st 2 a1 (ps (vI (ln p0)) (vln (sz := 2) (l := p0) (f := cGCol)) ?_)
 let a2 : St := a1.p [(1, (vI (IntKind.wrap .i64 (p1 - (ln p0))))), (9, (vI (IntKind.wrap .i64 (p1 - (ln p0))))), (8, (vI (ln p0)))]
 refine st 2 a2 (nx (si (so ?_)))
 let a3 : St := a2.p [(11, (vB (decide ((IntKind.wrap .i64 (p1 - (ln p0))) < 0)))), (10, (vI (IntKind.wrap .i64 (p1 - (ln p0)))))]
 refine st 2 a3 (nx ?_)
 refine cd h (fun h => ?_) fun h => ?_
 refine so ?_
 let a4 : St := a3.p [(4, (vI (-1)))]
 refine st 1 a4 (nx (ri (tr ?_)))
 injection h with h; subst h
 exact r1 (v := (vI (-1)))
 refine ki (xi (si (so ?_)))
 let a5 : St := a3.p [(5, (vI 0))]
 exact st 1 a5 (nx (bi (loop_go (s' := stwSzColS_L0 p0 (IntKind.wrap .i64 (p1 - (ln p0))) 0) (wr [] (es (es (es er_nil))) br_nil) (OK_wSzColS_L0 p0 (IntKind.wrap .i64 (p1 - (ln p0))) 0 _ h))))
theorem OK_wSzTable (p0 : GTable) (p1 : Int) : FOk Tryz.prog 73 [(vGTable p0), (vI p1)] (fun y => (vI y)) (wSzTable p0 p1) := by
 intro r h
 rw [wSzTable] at h
 refine aof trwSzTable ?_
 show avc Tryz.prog acwSzTable (qwSzTable _) ⟨[(0, (vGTable p0)), (1, (vI p1))], []⟩
 delta acwSzTable
 refine so ?_
 let a0 : St := ⟨[(4, (vI 0)), (2, (.ptr 2 0)), (0, (vGTable p0)), (1, (vI p1))], [(2, bGTable p0)]⟩
 refine st 2 a0 (nx (so ?_))
 let a1 : St := a0.p [(1, (vI (IntKind.wrap .i64 (p1 - (ln p0.name))))), (9, (vI (IntKind.wrap .i64 (p1 - (ln p0.name))))), (8, (vI (ln p0.name))), (7, (vS p0.name)), (6, (.ptr 2 0)), (5, (vI p1))]
 refine st 6 a1 (nx (si (so ?_)))
 let a2 : St := a1.p [(11, (vB (decide ((IntKind.wrap .i64 (p1 - (ln p0.name))) < 0)))), (10, (vI (IntKind.wrap .i64 (p1 - (ln p0.name)))))]
 refine st 2 a2 (nx ?_)
 refine cd h (fun h => ?_) fun h => ?_
 refine so ?_
 let a3 : St := a2.p [(4, (vI (-1)))]
 refine st 1 a3 (nx (ri (tr ?_)))
 injection h with h; subst h
 exact r1 (v := (vI (-1)))
 refine ki (xi (so ?_))
 let a4 : St := a2.p [(14, (vI (IntKind.wrap .i64 (p1 - (ln p0.name))))), (13, (.d (.sl 2 (p0.cols.map cGCol)))), (12, (.ptr 2 1))]
 refine st 3 a4 (cs h (OK_wSzColS p0.cols (IntKind.wrap .i64 (p1 - (ln p0.name)))) fun y1 h => ?_)
 let a5 : St := a4.p [(1, (vI y1)), (15, (vI y1))]
 refine st 1 a5 (nx (si (so ?_)))
 let a6 : St := a5.p [(17, (vB (decide (y1 < 0)))), (16, (vI y1))]
 refine st 2 a6 (nx ?_)
 refine cd h (fun h => ?_) fun h => ?_
 refine so ?_
 let a7 : St := a6.p [(4, (vI (-1)))]
 refine st 1 a7 (nx (ri (tr ?_)))
 injection h with h; subst h
 exact r1 (v := (vI (-1)))
 refine ki (xi (so ?_))
 let a8 : St := a6.p [(4, (vI y1)), (18, (vI y1))]
 refine st 2 a8 (nx (ri ?_))
 injection h with h; subst h
 exact r1 (v := (vI y1))
theorem OKs_wSzTableS_L0 (p0 : (List GTable)) : (∀ (x1 : Int) (x5 : Int) (r : Int), wSzTableS_L0 p0 x1 x5 = some r → avc Tryz.prog acwSzTableS_L0 (qwSzTableS_1 r) (stwSzTableS_L0 p0 x1 x5)) := by
 refine wSzTableS_L0.partial_correctness p0 (fun x1 x5 r => avc Tryz.prog acwSzTableS_L0 (qwSzTableS_1 r) (stwSzTableS_L0 p0 x1 x5)) ?_
 · intro F_wSzTableS_L0 OK_wSzTableS_L0 x1 x5 r h
   delta acwSzTableS_L0
   refine loop_unroll (si (so ?_))
   let a6 : St := (stwSzTableS_L0 p0 x1 x5).p [(13, (.d (.sl 2 (p0.map cGTable)))), (12, (vI x5))]
   refine st 2 a6 (ps (vI (ln p0)) (vln (sz := 2) (l := p0) (f := cGTable)) ?_)
   let a7 : St := a6.p [(15, (vB (decide (x5 < (ln p0))))), (14, (vI (ln p0)))]
   refine st 1 a7 (nx ?_)
   refine cd h (fun h => ?_) fun h => ?_
   refine ki (xi (si (bi (so ?_))))
   let a8 : St := a7.p [(19, (vI x5)), (18, (.d (.sl 2 (p0.map cGTable))))]
   refine st 2 a8 (vs (fun (y : GTable) => (.rp (cGTable y))) h (fun y hy => via (l := p0) (f := cGTable) (g := cGTable) (k := .i64) hy (fun _ => rfl)) fun y1 h => ?_)
   let a9 : St := a8.p [(22, (vI x1)), (21, (vGTable y1)), (20, (.rp (cGTable y1)))]
   refine st 2 a9 (cs h (OK_wSzTable y1 x1) fun y2 h => ?_)
   let a10 : St := a9.p [(1, (vI y2)), (23, (vI y2))]
   refine st 1 a10 (nx (so ?_))
   let a11 : St := a10.p [(25, (vB (decide (y2 < 0)))), (24, (vI y2))]
   refine st 2 a11 (nx ?_)
   refine cd h (fun h => ?_) fun h => ?_
   refine so ?_
   let a12 : St := a11.p [(4, (vI (-1)))]
   refine st 1 a12 (nx (ri (br (tr (tr (br (tr ?_)))))))
   injection h with h; subst h
   exact r1 (v := (vI (-1)))
   refine ki (bn (xi (oi ?_)))
   let a13 : St := a11.p [(5, (vI (IntKind.wrap .i64 (x5 + 1)))), (17, (vI (IntKind.wrap .i64 (x5 + 1)))), (16, (vI x5))]
   exact st 3 a13 (ni (loop_back (s' := stwSzTableS_L0 p0 y2 (IntKind.wrap .i64 (x5 + 1))) (wr [] (es (es (es er_nil))) br_nil) (OK_wSzTableS_L0 y2 (IntKind.wrap .i64 (x5 + 1)) _ h)))
   refine ei (te (te (bh (xi (so ?_)))))
   let a14 : St := a7.p [(4, (vI x1)), (26, (vI x1))]
   refine st 2 a14 (nx (ri ?_))
   injection h with h; subst h
   exact r1 (v := (vI x1))
theorem OK_wSzTableS_L0 (p0 : (List GTable)) (x1 : Int) (x5 : Int) (r : Int) (h : wSzTableS_L0 p0 x1 x5 = some r) : avc Tryz.prog acwSzTableS_L0 (qwSzTableS_1 r) (stwSzTableS_L0 p0 x1 x5) := (OKs_wSzTableS_L0 p0) x1 x5 r h
theorem OK_wSzTableS (p0 : (List GTable)) (p1 : Int) : FOk Tryz.prog 40 [(.d (.sl 2 (p0.map cGTable))), (vI p1)] (fun y => (vI y)) (wSzTableS p0 p1) := by
 intro r h
 rw [wSzTableS] at h
 refine aof trwSzTableS ?_
 show avc Tryz.prog acwSzTableS (qwSzTableS _) ⟨[(0, (.d (.sl 2 (p0.map cGTable)))), (1, (vI p1))], []⟩
 delta acwSzTableS
 refine so ?_
 let a0 : St := ⟨[(4, (vI 0)), (0, (.d (.sl 2 (p0.map cGTable)))), (1, (vI p1))], []⟩
 refine st 1 a0 (nx (so ?_))
 let a1 : St := a0.p [(7, (.d (.sl 2 (p0.map cGTable)))), (6, (vI p1))]
 refine st 2 a1 (ps (vI (ln p0)) (vln (sz := 2) (l := p0) (f := cGTable)) ?_)
 let a2 : St := a1.p [(1, (vI (IntKind.wrap .i64 (p1 - (ln p0))))), (9, (vI (IntKind.wrap .i64 (p1 - (ln p0))))), (8, (vI (ln p0)))]
 refine st 2 a2 (nx (si (so ?_)))
 let a3 : St := a2.p [(11, (vB (decide ((IntKind.wrap .i64 (p1 - (ln p0))) < 0)))), (10, (vI (IntKind.wrap .i64 (p1 - (ln p0)))))]
 refine st 2 a3 (nx ?_)
 refine cd h (fun h => ?_) fun h => ?_
 refine so ?_
 let a4 : St := a3.p [(4, (vI (-1)))]
 refine st 1 a4 (nx (ri (tr ?_)))
 injection h with h; subst h
 exact r1 (v := (vI (-1)))
 refine ki (xi (si (so ?_)))
 let a5 : St := a3.p [(5, (vI 0))]
 exact st 1 a5 (nx (bi (loop_go (s' := stwSzTableS_L0 p0 (IntKind.wrap .i64 (p1 - (ln p0))) 0) (wr [] (es (es (es er_nil))) br_nil) (OK_wSzTableS_L0 p0 (IntKind.wrap .i64 (p1 - (ln p0))) 0 _ h))))
theorem OK_wSzCatalog (p0 : GCatalog) (p1 : Int) : FOk Tryz.prog 22 [(vGCatalog p0), (vI p1)] (fun y => (vI y)) (wSzCatalog p0 p1) := by
 intro r h
 rw [wSzCatalog] at h
 refine aof trwSzCatalog ?_
 show avc Tryz.prog acwSzCatalog (qwSzCatalog _) ⟨[(0, (vGCatalog p0)), (1, (vI p1))], []⟩
 delta acwSzCatalog
 refine so ?_
 let a0 : St := ⟨[(4, (vI 0)), (2, (.ptr 2 0)), (0, (vGCatalog p0)), (1, (vI p1))], [(2, bGCatalog p0)]⟩
 refine st 2 a0 (nx (so ?_))
 let a1 : St := a0.p [(7, (vI p1)), (6, (.d (.sl 2 (p0.tables.map cGTable)))), (5, (.ptr 2 0))]
 refine st 3 a1 (cs h (OK_wSzTableS p0.tables p1) fun y1 h => ?_)
 let a2 : St := a1.p [(1, (vI y1)), (8, (vI y1))]
 refine st 1 a2 (nx (si (so ?_)))
 let a3 : St := a2.p [(10, (vB (decide (y1 < 0)))), (9, (vI y1))]
 refine st 2 a3 (nx ?_)
 refine cd h (fun h => ?_) fun h => ?_
 refine so ?_
 let a4 : St := a3.p [(4, (vI (-1)))]
 refine st 1 a4 (nx (ri (tr ?_)))
 injection h with h; subst h
 exact r1 (v := (vI (-1)))
 refine ki (xi (so ?_))
 let a5 : St := a3.p [(4, (vI y1)), (11, (vI y1))]
 refine st 2 a5 (nx (ri ?_))
 injection h with h; subst h
 exact r1 (v := (vI y1))
theorem OK_wToCol (p0 : GCol) : FOk Tryz.prog 146 [(vGCol p0)] (fun y => (vGCol y)) (wToCol p0) := by
 intro r h
 rw [wToCol] at h
 refine aof trwToCol ?_
 show avc Tryz.prog acwToCol (qwToCol _) ⟨[(0, (vGCol p0))], []⟩
 delta acwToCol
 refine so ?_
 let a0 : St := ⟨[(2, (.ptr 2 0)), (1, (.ptr 1 0)), (0, (vGCol p0))], [(2, [(vS []), (vI 0)]), (1, bGCol p0)]⟩
 refine st 2 a0 (nx (so ?_))
 let a1 : St := ⟨(3, (.ptr 3 0)) :: a0.env, [(3, [(vS []), (vI 0)]), (2, [(vS []), (vI 0)]), (1, bGCol p0)]⟩
 refine st 1 a1 (nx (so ?_))
 let a2 : St := ⟨(6, (.ptr 3 0)) :: (5, (vS p0.name)) :: (4, (.ptr 1 0)) :: a1.env, [(3, [(vS p0.name), (vI 0)]), (2, [(vS []), (vI 0)]), (1, bGCol p0)]⟩
 refine st 4 a2 (nx (so ?_))
 let a3 : St := ⟨(9, (.ptr 3 1)) :: (8, (vI p0.type)) :: (7, (.ptr 1 1)) :: a2.env, [(3, [(vS p0.name), (vI p0.type)]), (2, [(vS []), (vI 0)]), (1, bGCol p0)]⟩
 refine st 4 a3 (nx (so ?_))
 let a4 : St := ⟨(10, (vGCol p0)) :: a3.env, [(3, [(vS p0.name), (vI p0.type)]), (2, bGCol p0), (1, bGCol p0)]⟩
 refine st 2 a4 (nx (ri ?_))
 injection h with h; subst h
 exact r1 (v := (vGCol p0))
theorem OKs_wToColS_L0 (p0 : (List GCol)) : (∀ (x4 : Int) (b7_0 : (List GCol)) (r : (List GCol)), wToColS_L0 p0 x4 b7_0 = some r → avc Tryz.prog acwToColS_L0 (qwToColS_1 r) (stwToColS_L0 p0 x4 b7_0)) := by
 refine wToColS_L0.partial_correctness p0 (fun x4 b7_0 r => avc Tryz.prog acwToColS_L0 (qwToColS_1 r) (stwToColS_L0 p0 x4 b7_0)) ?_
 · intro F_wToColS_L0 OK_wToColS_L0 x4 b7_0 r h
   delta acwToColS_L0
   refine loop_unroll (si (so ?_))
   let a4 : St := (stwToColS_L0 p0 x4 b7_0).p [(9, (.d (.sl 2 (p0.map cGCol)))), (8, (vI x4))]
   refine st 2 a4 (ps (vI (ln p0)) (vln (sz := 2) (l := p0) (f := cGCol)) ?_)
   let a5 : St := a4.p [(11, (vB (decide (x4 < (ln p0))))), (10, (vI (ln p0)))]
   refine st 1 a5 (nx ?_)
   refine cd h (fun h => ?_) fun h => ?_
   refine ki (xi (si (bi (oi ?_))))
   let a6 : St := a5.p [(17, (vI x4)), (16, (.d (.sl 2 (p0.map cGCol)))), (15, (vI x4)), (14, (.msl 7 2 0 b7_0.length b7_0.length))]
   refine st 4 a6 (vs (fun (y : GCol) => (.rp (cGCol y))) h (fun y hy => via (l := p0) (f := cGCol) (g := cGCol) (k := .i64) hy (fun _ => rfl)) fun y2 h => ?_)
   let a7 : St := a6.p [(19, (vGCol y2)), (18, (.rp (cGCol y2)))]
   refine st 1 a7 (cs h (OK_wToCol y2) fun y3 h => (vs (fun (y : GCol) => (.ptr 7 ((0 + (x4).toNat) * 2))) h (fun y hy => vop_iaE (l := b7_0) (k := .i64) hy (by kernel_rfl) (by kernel_rfl) (by kernel_rfl)) fun y4 h => ?_))
   refine sti_step (b := 7) (i := x4) (l := b7_0) (v := y3) (f := cGCol) (u := (vGCol y3)) (T := fun y m => ⟨[(21, (.ptr 7 ((0 + (x4).toNat) * 2))), (20, (vGCol y3)), (19, (vGCol y2)), (18, (.rp (cGCol y2))), (17, (vI x4)), (16, (.d (.sl 2 (p0.map cGCol)))), (15, (vI x4)), (14, (.msl 7 2 0 m m)), (11, (vB (decide (x4 < (ln p0))))), (10, (vI (ln p0))), (9, (.d (.sl 2 (p0.map cGCol)))), (8, (vI x4)), (0, (.d (.sl 2 (p0.map cGCol)))), (3, (.msl 7 2 0 m m)), (4, (vI x4))], [(7, rowsV (y.map cGCol))]⟩) h (by kernel_rfl) (by kernel_rfl) (by kernel_rfl) (by kernel_rfl) (fun y => (congrArg List.length ((fun _ => rfl) y)).trans rfl) (by kernel_rfl) (fun y => by kernel_rfl) ?_
   clear h; intro y5 h
   refine ni (bn (xi (oi ?_)))
   let a8 : St := ⟨[(4, (vI (IntKind.wrap .i64 (x4 + 1)))), (13, (vI (IntKind.wrap .i64 (x4 + 1)))), (12, (vI x4)), (21, (.ptr 7 ((0 + (x4).toNat) * 2))), (20, (vGCol y3)), (19, (vGCol y2)), (18, (.rp (cGCol y2))), (17, (vI x4)), (16, (.d (.sl 2 (p0.map cGCol)))), (15, (vI x4)), (14, (.msl 7 2 0 y5.length y5.length)), (11, (vB (decide (x4 < (ln p0))))), (10, (vI (ln p0))), (9, (.d (.sl 2 (p0.map cGCol)))), (8, (vI x4)), (0, (.d (.sl 2 (p0.map cGCol)))), (3, (.msl 7 2 0 y5.length y5.length)), (4, (vI x4))], [(7, rowsV (y5.map cGCol))]⟩
   exact st 3 a8 (ni (loop_back (s' := stwToColS_L0 p0 (IntKind.wrap .i64 (x4 + 1)) y5) (wr [] (es (es (es er_nil))) (br_rows (by kernel_rfl) br_nil)) (OK_wToColS_L0 (IntKind.wrap .i64 (x4 + 1)) y5 _ h)))
   refine ei (te (te (bh (xi (so ?_)))))
   let a9 : St := a5.p [(2, (.msl 7 2 0 b7_0.length b7_0.length)), (22, (.msl 7 2 0 b7_0.length b7_0.length))]
   refine st 2 a9 (nx (ret_frz (n := 7) (sz := 2) (l := b7_0) (f := cGCol) (s' := ⟨[(2, (.d (.sl 2 (b7_0.map cGCol))))], []⟩) (by decide) (fun y => (congrArg List.length ((fun _ => rfl) y)).trans rfl) (by kernel_rfl) (⟨.inr ⟨b7_0.length, b7_0.length, by kernel_rfl, lms b7_0 _, by kernel_rfl⟩, trivial⟩) (trivial) (ri ?_)))
   injection h with h; subst h
   exact r1 (v := (.d (.sl 2 (b7_0.map cGCol))))
theorem OK_wToColS_L0 (p0 : (List GCol)) (x4 : Int) (b7_0 : (List GCol)) (r : (List GCol)) (h : wToColS_L0 p0 x4 b7_0 = some r) : avc Tryz.prog acwToColS_L0 (qwToColS_1 r) (stwToColS_L0 p0 x4 b7_0) := (OKs_wToColS_L0 p0) x4 b7_0 r h
theorem OK_wToColS (p0 : (List GCol)) : FOk Tryz.prog 121 [(.d (.sl 2 (p0.map cGCol)))] (fun y => (.d (.sl 2 (y.map cGCol)))) (wToColS p0) := by
 intro r h
 rw [wToColS] at h
 refine aof trwToColS ?_
 show avc Tryz.prog acwToColS (qwToColS _) ⟨[(0, (.d (.sl 2 (p0.map cGCol))))], []⟩
 delta acwToColS
 refine so ?_
 let a0 : St := ⟨[(2, (.nil 2)), (0, (.d (.sl 2 (p0.map cGCol))))], []⟩
 refine st 1 a0 (nx (so ?_))
 let a1 : St := a0.p [(5, (.d (.sl 2 (p0.map cGCol))))]
 refine st 1 a1 (ps (vI (ln p0)) (vln (sz := 2) (l := p0) (f := cGCol)) ?_)
 refine mks_step (k := .i64) (k' := .i64) (z := ((GCol.mk [] 0) : GCol)) (f := cGCol) (S' := fun y => ⟨(7, (.msl 7 2 0 y.length y.length)) :: (6, (vI (ln p0))) :: a1.env, [(7, rowsV (y.map cGCol))]⟩) h (by kernel_rfl) (by kernel_rfl) (by kernel_rfl) (by kernel_rfl) (by kernel_rfl) (fun y => by kernel_rfl) ?_
 clear h; intro y1 h
 let a2 : St := ⟨(3, (.msl 7 2 0 y1.length y1.length)) :: (7, (.msl 7 2 0 y1.length y1.length)) :: (6, (vI (ln p0))) :: a1.env, [(7, rowsV (y1.map cGCol))]⟩
 refine st 1 a2 (nx (si (so ?_)))
 let a3 : St := a2.p [(4, (vI 0))]
 exact st 1 a3 (nx (bi (loop_go (s' := stwToColS_L0 p0 0 y1) (wr [] (es (es (es er_nil))) (br_rows (by kernel_rfl) br_nil)) (OK_wToColS_L0 p0 0 y1 _ h))))
theorem OK_wToTable (p0 : GTable) : FOk Tryz.prog 81 [(vGTable p0)] (fun y => (vGTable y)) (wToTable p0) := by
 intro r h
 rw [wToTable] at h
 refine aof trwToTable ?_
 show avc Tryz.prog acwToTable (qwToTable _) ⟨[(0, (vGTable p0))], []⟩
 delta acwToTable
 refine so ?_
 let a0 : St := ⟨[(2, (.ptr 2 0)), (1, (.ptr 1 0)), (0, (vGTable p0))], [(2, [(vS []), (.nil 2)]), (1, bGTable p0)]⟩
 refine st 2 a0 (nx (so ?_))
 let a1 : St := ⟨(3, (.ptr 3 0)) :: a0.env, [(3, [(vS []), (.nil 2)]), (2, [(vS []), (.nil 2)]), (1, bGTable p0)]⟩
 refine st 1 a1 (nx (so ?_))
 let a2 : St := ⟨(6, (.ptr 3 0)) :: (5, (vS p0.name)) :: (4, (.ptr 1 0)) :: a1.env, [(3, [(vS p0.name), (.nil 2)]), (2, [(vS []), (.nil 2)]), (1, bGTable p0)]⟩
 refine st 4 a2 (nx (so ?_))
 let a3 : St := a2.p [(8, (.d (.sl 2 (p0.cols.map cGCol)))), (7, (.ptr 1 1))]
 refine st 2 a3 (cs h (OK_wToColS p0.cols) fun y1 h => ?_)
 let a4 : St := ⟨(10, (.ptr 3 1)) :: (9, (.d (.sl 2 (y1.map cGCol)))) :: a3.env, [(3, [(vS p0.name), (.d (.sl 2 (y1.map cGCol)))]), (2, [(vS []), (.nil 2)]), (1, bGTable p0)]⟩
 refine st 2 a4 (nx (so ?_))
 let a5 : St := ⟨(11, (vGTable (GTable.mk p0.name y1))) :: a4.env, [(3, [(vS p0.name), (.d (.sl 2 (y1.map cGCol)))]), (2, bGTable (GTable.mk p0.name y1)), (1, bGTable p0)]⟩
 refine st 2 a5 (nx (ri ?_))
 injection h with h; subst h
 exact r1 (v := (vGTable (GTable.mk p0.name y1)))
theorem OKs_wToTableS_L0 (p0 : (List GTable)) : (∀ (x4 : Int) (b7_0 : (List GTable)) (r : (List GTable)), wToTableS_L0 p0 x4 b7_0 = some r → avc Tryz.prog acwToTableS_L0 (qwToTableS_1 r) (stwToTableS_L0 p0 x4 b7_0)) := by
 refine wToTableS_L0.partial_correctness p0 (fun x4 b7_0 r => avc Tryz.prog acwToTableS_L0 (qwToTableS_1 r) (stwToTableS_L0 p0 x4 b7_0)) ?_
 · intro F_wToTableS_L0 OK_wToTableS_L0 x4 b7_0 r h
   delta acwToTableS_L0
   refine loop_unroll (si (so ?_))
   let a4 : St := (stwToTableS_L0 p0 x4 b7_0).p [(9, (.d (.sl 2 (p0.map cGTable)))), (8, (vI x4))]
   refine st 2 a4 (ps (vI (ln p0)) (vln (sz := 2) (l := p0) (f := cGTable)) ?_)
   let a5 : St := a4.p [(11, (vB (decide (x4 < (ln p0))))), (10, (vI (ln p0)))]
   refine st 1 a5 (nx ?_)
   refine cd h (fun h => ?_) fun h => ?_
   refine ki (xi (si (bi (oi ?_))))
   let a6 : St := a5.p [(17, (vI x4)), (16, (.d (.sl 2 (p0.map cGTable)))), (15, (vI x4)), (14, (.msl 7 2 0 b7_0.length b7_0.length))]
   refine st 4 a6 (vs (fun (y : GTable) => (.rp (cGTable y))) h (fun y hy => via (l := p0) (f := cGTable) (g := cGTable) (k := .i64) hy (fun _ => rfl)) fun y2 h => ?_)
   let a7 : St := a6.p [(19, (vGTable y2)), (18, (.rp (cGTable y2)))]
   refine st 1 a7 (cs h (OK_wToTable y2) fun y3 h => (vs (fun (y : GTable) => (.ptr 7 ((0 + (x4).toNat) * 2))) h (fun y hy => vop_iaE (l := b7_0) (k := .i64) hy (by kernel_rfl) (by kernel_rfl) (by kernel_rfl)) fun y4 h => ?_))
   refine sti_step (b := 7) (i := x4) (l := b7_0) (v := y3) (f := cGTable) (u := (vGTable y3)) (T := fun y m => ⟨[(21, (.ptr 7 ((0 + (x4).toNat) * 2))), (20, (vGTable y3)), (19, (vGTable y2)), (18, (.rp (cGTable y2))), (17, (vI x4)), (16, (.d (.sl 2 (p0.map cGTable)))), (15, (vI x4)), (14, (.msl 7 2 0 m m)), (11, (vB (decide (x4 < (ln p0))))), (10, (vI (ln p0))), (9, (.d (.sl 2 (p0.map cGTable)))), (8, (vI x4)), (0, (.d (.sl 2 (p0.map cGTable)))), (3, (.msl 7 2 0 m m)), (4, (vI x4))], [(7, rowsV (y.map cGTable))]⟩) h (by kernel_rfl) (by kernel_rfl) (by kernel_rfl) (by kernel_rfl) (fun y => (congrArg List.length ((fun _ => rfl) y)).trans rfl) (by kernel_rfl) (fun y => by kernel_rfl) ?_
   clear h; intro y5 h
   refine ni (bn (xi (oi ?_)))
   let a8 : St := ⟨[(4, (vI (IntKind.wrap .i64 (x4 + 1)))), (13, (vI (IntKind.wrap .i64 (x4 + 1)))), (12, (vI x4)), (21, (.ptr 7 ((0 + (x4).toNat) * 2))), (20, (vGTable y3)), (19, (vGTable y2)), (18, (.rp (cGTable y2))), (17, (vI x4)), (16, (.d (.sl 2 (p0.map cGTable)))), (15, (vI x4)), (14, (.msl 7 2 0 y5.length y5.length)), (11, (vB (decide (x4 < (ln p0))))), (10, (vI (ln p0))), (9, (.d (.sl 2 (p0.map cGTable)))), (8, (vI x4)), (0, (.d (.sl 2 (p0.map cGTable)))), (3, (.msl 7 2 0 y5.length y5.length)), (4, (vI x4))], [(7, rowsV (y5.map cGTable))]⟩
   exact st 3 a8 (ni (loop_back (s' := stwToTableS_L0 p0 (IntKind.wrap .i64 (x4 + 1)) y5) (wr [] (es (es (es er_nil))) (br_rows (by kernel_rfl) br_nil)) (OK_wToTableS_L0 (IntKind.wrap .i64 (x4 + 1)) y5 _ h)))
   refine ei (te (te (bh (xi (so ?_)))))
   let a9 : St := a5.p [(2, (.msl 7 2 0 b7_0.length b7_0.length)), (22, (.msl 7 2 0 b7_0.length b7_0.length))]
   refine st 2 a9 (nx (ret_frz (n := 7) (sz := 2) (l := b7_0) (f := cGTable) (s' := ⟨[(2, (.d (.sl 2 (b7_0.map cGTable))))], []⟩) (by decide) (fun y => (congrArg List.length ((fun _ => rfl) y)).trans rfl) (by kernel_rfl) (⟨.inr ⟨b7_0.length, b7_0.length, by kernel_rfl, lms b7_0 _, by kernel_rfl⟩, trivial⟩) (trivial) (ri ?_)))
   injection h with h; subst h
   exact r1 (v := (.d (.sl 2 (b7_0.map cGTable))))
theorem OK_wToTableS_L0 (p0 : (List GTable)) (x4 : Int) (b7_0 : (List GTable)) (r : (List GTable)) (h : wToTableS_L0 p0 x4 b7_0 = some r) : avc Tryz.prog acwToTableS_L0 (qwToTableS_1 r) (stwToTableS_L0 p0 x4 b7_0) := (OKs_wToTableS_L0 p0) x4 b7_0 r h
theorem OK_wToTableS (p0 : (List GTable)) : FOk Tryz.prog 43 [(.d (.sl 2 (p0.map cGTable)))] (fun y => (.d (.sl 2 (y.map cGTable)))) (wToTableS p0) := by
 intro r h
 rw [wToTableS] at h
 refine aof trwToTableS ?_
 show avc Tryz.prog acwToTableS (qwToTableS _) ⟨[(0, (.d (.sl 2 (p0.map cGTable))))], []⟩
 delta acwToTableS
 refine so ?_
 let a0 : St := ⟨[(2, (.nil 2)), (0, (.d (.sl 2 (p0.map cGTable))))], []⟩
 refine st 1 a0 (nx (so ?_))
 let a1 : St := a0.p [(5, (.d (.sl 2 (p0.map cGTable))))]
 refine st 1 a1 (ps (vI (ln p0)) (vln (sz := 2) (l := p0) (f := cGTable)) ?_)
 refine mks_step (k := .i64) (k' := .i64) (z := ((GTable.mk [] ([] : List GCol)) : GTable)) (f := cGTable) (S' := fun y => ⟨(7, (.msl 7 2 0 y.length y.length)) :: (6, (vI (ln p0))) :: a1.env, [(7, rowsV (y.map cGTable))]⟩) h (by kernel_rfl) (by kernel_rfl) (by kernel_rfl) (by kernel_rfl) (by kernel_rfl) (fun y => by kernel_rfl) ?_
 clear h; intro y1 h
 let a2 : St := ⟨(3, (.msl 7 2 0 y1.length y1.length)) :: (7, (.msl 7 2 0 y1.length y1.length)) :: (6, (vI (ln p0))) :: a1.env, [(7, rowsV (y1.map cGTable))]⟩
 refine st 1 a2 (nx (si (so ?_)))
 let a3 : St := a2.p [(4, (vI 0))]
 exact st 1 a3 (nx (bi (loop_go (s' := stwToTableS_L0 p0 0 y1) (wr [] (es (es (es er_nil))) (br_rows (by kernel_rfl) br_nil)) (OK_wToTableS_L0 p0 0 y1 _ h))))
theorem OK_wToCatalog (p0 : GCatalog) : FOk Tryz.prog 24 [(vGCatalog p0)] (fun y => (vGCatalog y)) (wToCatalog p0) := by
 intro r h
 rw [wToCatalog] at h
 refine aof trwToCatalog ?_
 show avc Tryz.prog acwToCatalog (qwToCatalog _) ⟨[(0, (vGCatalog p0))], []⟩
 delta acwToCatalog
 refine so ?_
 let a0 : St := ⟨[(2, (.ptr 2 0)), (1, (.ptr 1 0)), (0, (vGCatalog p0))], [(2, [(.nil 2)]), (1, bGCatalog p0)]⟩
 refine st 2 a0 (nx (so ?_))
 let a1 : St := ⟨(3, (.ptr 3 0)) :: a0.env, [(3, [(.nil 2)]), (2, [(.nil 2)]), (1, bGCatalog p0)]⟩
 refine st 1 a1 (nx (so ?_))
 let a2 : St := a1.p [(5, (.d (.sl 2 (p0.tables.map cGTable)))), (4, (.ptr 1 0))]
 refine st 2 a2 (cs h (OK_wToTableS p0.tables) fun y1 h => ?_)
 let a3 : St := ⟨(7, (.ptr 3 0)) :: (6, (.d (.sl 2 (y1.map cGTable)))) :: a2.env, [(3, [(.d (.sl 2 (y1.map cGTable)))]), (2, [(.nil 2)]), (1, bGCatalog p0)]⟩
 refine st 2 a3 (nx (so ?_))
 let a4 : St := ⟨(8, (vGCatalog (GCatalog.mk y1))) :: a3.env, [(3, [(.d (.sl 2 (y1.map cGTable)))]), (2, bGCatalog (GCatalog.mk y1)), (1, bGCatalog p0)]⟩
 refine st 2 a4 (nx (ri ?_))
 injection h with h; subst h
 exact r1 (v := (vGCatalog (GCatalog.mk y1)))
theorem OK_wFnExactCatalogText (p0 : GCatalog) : FOk Tryz.prog 7 [(vGCatalog p0)] (fun y => (vB y)) (wFnExactCatalogText p0) := by
 intro r h
 rw [wFnExactCatalogText] at h
 refine aof trwFnExactCatalogText ?_
 show avc Tryz.prog acwFnExactCatalogText (qwFnExactCatalogText _) ⟨[(0, (vGCatalog p0))], []⟩
 delta acwFnExactCatalogText
 refine so ?_
 let a0 : St := ⟨[(2, (vB false)), (1, (.ptr 1 0)), (0, (vGCatalog p0))], [(1, bGCatalog p0)]⟩
 refine st 2 a0 (nx (so ?_))
 let a1 : St := a0.p [(3, (vI 1048576))]
 refine st 1 a1 (nx (so ?_))
 let a2 : St := a1.p [(8, (vI 1048576)), (7, (vGCatalog p0))]
 refine st 2 a2 (cs h (OK_wSzCatalog p0 1048576) fun y1 h => ?_)
 let a3 : St := a2.p [(3, (vI y1)), (9, (vI y1))]
 refine st 1 a3 (nx (si (so ?_)))
 let a4 : St := a3.p [(11, (vB (decide (y1 < 0)))), (10, (vI y1))]
 refine st 2 a4 (nx ?_)
 refine cd h (fun h => ?_) fun h => ?_
 refine so ?_
 let a5 : St := a4.p [(2, (vB true))]
 refine st 1 a5 (nx (ri (tr ?_)))
 injection h with h; subst h
 exact r1 (v := (vB true))
 refine ki (xi (so ?_))
 let a6 : St := a4.p [(12, (vGCatalog p0))]
 refine st 1 a6 (cs h (OK_wToCatalog p0) fun y2 h => (cs h (OK_sCatalogText y2) fun y3 h => ?_))
 let a7 : St := a6.p [(4, (vS y3)), (14, (vS y3)), (13, (vGCatalog y2))]
 refine st 1 a7 (nx (so ?_))
 let a8 : St := a7.p [(15, (vGCatalog p0))]
 refine st 1 a8 (cs h (OK_wToCatalog p0) fun y4 h => ?_)
 let a9 : St := ⟨(5, (.ptr 5 0)) :: (16, (vGCatalog y4)) :: a8.env, [(5, bGCatalog y4), (1, bGCatalog p0)]⟩
 refine st 2 a9 (nx (so ?_))
 let a10 : St := a9.p [(17, (vGCatalog y4))]
 refine st 1 a10 (cs h (OK_iCatalogText y4) fun y5 h => ?_)
 let a11 : St := a10.p [(6, (vS y5)), (18, (vS y5))]
 refine st 1 a11 (nx (si (so ?_)))
 let a12 : St := a11.p [(21, (vB (!decide (y5 = y3)))), (20, (vS y3)), (19, (vS y5))]
 refine st 3 a12 (nx ?_)
 refine cd h (fun h => ?_) fun h => ?_
 refine so ?_
 let a13 : St := a12.p [(2, (vB false))]
 refine st 1 a13 (nx (ri (tr ?_)))
 injection h with h; subst h
 exact r1 (v := (vB false))
 refine ki (xi (si (si (dops_in ?_))))
 let a14 : St := a12.p [(23, (vGCatalog p0)), (22, (vGCatalog y4))]
 refine dsts_ok 2 (s' := a14) (by kernel_rfl) (dcall_step (m := wToCatalog p0) (args := [(vGCatalog p0)]) (v' := (fun y => (vGCatalog y))) h (OK_wToCatalog p0) (by kernel_rfl) (by kernel_rfl) (fun _ => rfl) ?_)
 clear h; intro y6 h
 refine dcall_step (m := wEqCatalog y4 y6) (args := [(vGCatalog y4), (vGCatalog y6)]) (v' := (fun y => (vB y))) h (OK_wEqCatalog y4 y6) (by kernel_rfl) (by kernel_rfl) (fun _ => rfl) ?_
 clear h; intro y7 h
 let a15 : St := a14.p [(26, (vB (!y7))), (25, (vB y7)), (24, (vGCatalog y6))]
 refine dsts_ok 1 (s' := a15) (by kernel_rfl) (dnil_in (by kernel_rfl) (by kernel_rfl) (xi ?_))
 refine cd h (fun h => ?_) fun h => ?_
 refine so ?_
 let a16 : St := a15.p [(2, (vB false))]
 refine st 1 a16 (nx (ri (tr ?_)))
 injection h with h; subst h
 exact r1 (v := (vB false))
 refine ki (xi (so ?_))
 let a17 : St := a15.p [(2, (vB true))]
 refine st 1 a17 (nx (ri ?_))
 injection h with h; subst h
 exact r1 (v := (vB true))
theorem law_wFnExactCatalogText (hp : ∀ (x0 : GCatalog) (_ : okGCatalog x0), wFnExactCatalogText x0 = some true) (ls : List (List D)) (hw : WtA Tryz.prog [39] ls) (hok : ∀ l ∈ ls, ∀ x ∈ l, OkD x) : ACalls Tryz.prog 7 (argsV Tryz.prog [39] ls) [] fun x _ => x = .d (.b true) := by
  rcases hw with _ | ⟨h0, hw⟩
  cases hw
  obtain ⟨x0, rfl⟩ := de39 h0
  have a0 : argV Tryz.prog 39 (cGCatalog x0) = (vGCatalog x0) := by kernel_rfl
  have k0 : ∀ d ∈ cGCatalog x0, OkD d := hok _ (by simp)
  simp only [argsV, a0]
  exact OK_wFnExactCatalogText x0 true (hp x0 (koGCatalog x0 k0))
end Go.Proofs.YtechmmnknmdacaaGreatDoor
