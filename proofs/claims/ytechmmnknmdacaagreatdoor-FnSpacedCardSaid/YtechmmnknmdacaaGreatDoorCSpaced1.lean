/- That the code computes these functions (printed by a program). -/
import Derived.Test.YtechmmnknmdacaaGreatDoorCSpaced0
namespace Go.Proofs.YtechmmnknmdacaaGreatDoor
open Go Go.RowKit Go.Ab
theorem OK_sL3Token (p0 : GL1Cur) : FOkB Tryz.prog 90 [(.ptr 1000000 0)] [(1000000, bGL1Cur p0)] (fun (y : GToken × GL1Cur) => (vGToken y.1)) (fun (y : GToken × GL1Cur) => [(1000000, bGL1Cur y.2)]) (sL3Token p0) := by
 intro r h
 rw [sL3Token] at h
 refine acalls_of_fn trsL3Token (Nat.le_of_ble_eq_true rfl) (by intro n hn; simp at hn; simp only [NX]; omega) ?_
 show avc Tryz.prog acsL3Token (qsL3Token _) ⟨[(0, (.ptr 1000000 0))], [(1000000, bGL1Cur p0)]⟩
 delta acsL3Token
 refine so ?_
 let a0 : St := ⟨[(2, (.ptr 2 0)), (0, (.ptr 1000000 0))], [(2, [(vI 0), (vS []), (vI 0)]), (1000000, bGL1Cur p0)]⟩
 refine st 1 a0 (nx (si (so ?_)))
 let a1 : St := a0.p [(3, (.ptr 1000000 0))]
 refine st 1 a1 (callg_step ⟨[(1000000, 1000000)], [], [], [], [], [], [], [], []⟩ (m := sL1Below p0 6) (S' := fun (y : Int × GL1Cur) => ⟨(4, (vI y.1)) :: a1.env, [(2, [(vI 0), (vS []), (vI 0)]), (1000000, bGL1Cur y.2)]⟩) h (OK_sL1Below p0 6) (by kernel_rfl) (by kernel_rfl) (by kernel_rfl) (by kernel_rfl) (fun y => by kernel_rfl) (fun y => by kernel_rfl) ?_)
 clear h; intro y1 h
 refine nx (bi (so ?_))
 let a2 : St := ⟨(5, (vB (decide (y1.1 = 0)))) :: (6, (vB (decide (y1.1 = 0)))) :: (4, (vI y1.1)) :: a1.env, [(2, [(vI 0), (vS []), (vI 0)]), (1000000, bGL1Cur y1.2)]⟩
 refine st 2 a2 (nx ?_)
 refine cd h (fun h => ?_) fun h => ?_
 refine so (callg_step ⟨[], [], [], [], [], [(2000000, 7)], [], [7], []⟩ (m := sL2Words) (S' := fun (y : (List (List UInt8))) => ⟨(7, (.osl 7 9 1 (y.map cStr))) :: a2.env, a2.bx⟩) h (OK_sL2Words) (by kernel_rfl) (by kernel_rfl) (by kernel_rfl) (by kernel_rfl) (fun y => by kernel_rfl) (fun y => by kernel_rfl) ?_)
 clear h; intro y2 h
 let a3 : St := a2.p [(8, (.ptr 1000000 0)), (7, (.osl 7 9 1 (y2.map cStr)))]
 refine st 1 a3 (callg_step ⟨[(1000000, 1000000)], [], [], [], [], [], [], [], []⟩ (m := sL1Below y1.2 28) (S' := fun (y : Int × GL1Cur) => ⟨(9, (vI y.1)) :: a3.env, [(2, [(vI 0), (vS []), (vI 0)]), (1000000, bGL1Cur y.2)]⟩) h (OK_sL1Below y1.2 28) (by kernel_rfl) (by kernel_rfl) (by kernel_rfl) (by kernel_rfl) (fun y => by kernel_rfl) (fun y => by kernel_rfl) ?_)
 clear h; intro y3 h
 let a4 : St := ⟨(10, (vI (IntKind.wrap .i64 (1 + y3.1)))) :: (9, (vI y3.1)) :: a3.env, [(2, [(vI 0), (vS []), (vI 0)]), (1000000, bGL1Cur y3.2)]⟩
 refine st 1 a4 (vs (fun (y : (List UInt8)) => (.rp [(.s (bs y))])) h (fun y hy => via (l := y2) (f := cStr) (g := cStr) (k := .i64) hy (fun _ => rfl)) fun y4 h => ?_)
 let a5 : St := ⟨(13, (vGToken (GToken.mk 1 y4 0))) :: (12, (vS y4)) :: (11, (.rp [(.s (bs y4))])) :: a4.env, [(2, bGToken (GToken.mk 1 y4 0)), (1000000, bGL1Cur y3.2)]⟩
 refine st 3 a5 (nx (ri (br (tr ?_))))
 injection h with h; subst h
 exact ret1_step (v := (vGToken (GToken.mk 1 y4 0))) (by kernel_rfl) (by kernel_rfl) ⟨by kernel_rfl, by kernel_rfl, trivial⟩
 refine so ?_
 let a6 : St := a2.p [(14, (vB (decide (y1.1 = 1)))), (15, (vB (decide (y1.1 = 1))))]
 refine st 2 a6 (nx ?_)
 refine cd h (fun h => ?_) fun h => ?_
 refine so ?_
 let a7 : St := a6.p [(16, (.ptr 1000000 0))]
 refine st 1 a7 (callg_step ⟨[(1000000, 1000000)], [], [], [], [], [], [], [], []⟩ (m := sL2Name y1.2) (S' := fun (y : (List UInt8) × GL1Cur) => ⟨(17, (vS y.1)) :: a7.env, [(2, [(vI 0), (vS []), (vI 0)]), (1000000, bGL1Cur y.2)]⟩) h (OK_sL2Name y1.2) (by kernel_rfl) (by kernel_rfl) (by kernel_rfl) (by kernel_rfl) (fun y => by kernel_rfl) (fun y => by kernel_rfl) ?_)
 clear h; intro y5 h
 let a8 : St := ⟨(18, (vGToken (GToken.mk 2 y5.1 0))) :: (17, (vS y5.1)) :: a7.env, [(2, bGToken (GToken.mk 2 y5.1 0)), (1000000, bGL1Cur y5.2)]⟩
 refine st 2 a8 (nx (ri (br (tr ?_))))
 injection h with h; subst h
 exact ret1_step (v := (vGToken (GToken.mk 2 y5.1 0))) (by kernel_rfl) (by kernel_rfl) ⟨by kernel_rfl, by kernel_rfl, trivial⟩
 refine so ?_
 let a9 : St := a6.p [(19, (vB (decide (y1.1 = 2)))), (20, (vB (decide (y1.1 = 2))))]
 refine st 2 a9 (nx ?_)
 refine cd h (fun h => ?_) fun h => ?_
 refine so ?_
 let a10 : St := a9.p [(21, (.ptr 1000000 0))]
 refine st 1 a10 (callg_step ⟨[(1000000, 1000000)], [], [], [], [], [], [], [], []⟩ (m := sL1Whole y1.2) (S' := fun (y : Int × GL1Cur) => ⟨(22, (vI y.1)) :: a10.env, [(2, [(vI 0), (vS []), (vI 0)]), (1000000, bGL1Cur y.2)]⟩) h (OK_sL1Whole y1.2) (by kernel_rfl) (by kernel_rfl) (by kernel_rfl) (by kernel_rfl) (fun y => by kernel_rfl) (fun y => by kernel_rfl) ?_)
 clear h; intro y6 h
 refine cs h (OK_sL1Max 0 y6.1) fun y7 h => (cs h (OK_sDigits y7) fun y8 h => ?_)
 let a11 : St := ⟨(25, (vGToken (GToken.mk 3 y8 0))) :: (24, (vS y8)) :: (23, (vI y7)) :: (22, (vI y6.1)) :: a10.env, [(2, bGToken (GToken.mk 3 y8 0)), (1000000, bGL1Cur y6.2)]⟩
 refine st 2 a11 (nx (ri (br (tr ?_))))
 injection h with h; subst h
 exact ret1_step (v := (vGToken (GToken.mk 3 y8 0))) (by kernel_rfl) (by kernel_rfl) ⟨by kernel_rfl, by kernel_rfl, trivial⟩
 refine so ?_
 let a12 : St := a9.p [(26, (vB (decide (y1.1 = 3)))), (27, (vB (decide (y1.1 = 3))))]
 refine st 2 a12 (nx ?_)
 refine cd h (fun h => ?_) fun h => ?_
 refine so ?_
 let a13 : St := a12.p [(28, (.ptr 1000000 0))]
 refine st 1 a13 (bsl_step (l := ([[], [120], [105, 116, 39, 115], [39, 39], [116, 119, 111, 32, 119, 111, 114, 100, 115], [34], [45, 45], [0, 255]] : List (List UInt8))) (f := cStr) (g := cStr) (by kernel_rfl) (fun _ => rfl) (by kernel_rfl) ?_)
 refine callg_step ⟨[(1000000, 1000000)], [], [], [], [], [], [], [], []⟩ (m := sL1Pick y1.2 ([[], [120], [105, 116, 39, 115], [39, 39], [116, 119, 111, 32, 119, 111, 114, 100, 115], [34], [45, 45], [0, 255]] : List (List UInt8))) (S' := fun (y : (List UInt8) × GL1Cur) => ⟨(30, (vS y.1)) :: (29, (.osl 29 9 1 (([[], [120], [105, 116, 39, 115], [39, 39], [116, 119, 111, 32, 119, 111, 114, 100, 115], [34], [45, 45], [0, 255]] : List (List UInt8)).map cStr))) :: a13.env, [(2, [(vI 0), (vS []), (vI 0)]), (1000000, bGL1Cur y.2)]⟩) h (OK_sL1Pick y1.2 ([[], [120], [105, 116, 39, 115], [39, 39], [116, 119, 111, 32, 119, 111, 114, 100, 115], [34], [45, 45], [0, 255]] : List (List UInt8))) (by kernel_rfl) (by kernel_rfl) (by kernel_rfl) (by kernel_rfl) (fun y => by kernel_rfl) (fun y => by kernel_rfl) ?_
 clear h; intro y9 h
 let a14 : St := ⟨(31, (vGToken (GToken.mk 4 y9.1 0))) :: (30, (vS y9.1)) :: (29, (.osl 29 9 1 (([[], [120], [105, 116, 39, 115], [39, 39], [116, 119, 111, 32, 119, 111, 114, 100, 115], [34], [45, 45], [0, 255]] : List (List UInt8)).map cStr))) :: a13.env, [(2, bGToken (GToken.mk 4 y9.1 0)), (1000000, bGL1Cur y9.2)]⟩
 refine st 2 a14 (nx (ri (br (tr ?_))))
 injection h with h; subst h
 exact ret1_step (v := (vGToken (GToken.mk 4 y9.1 0))) (by kernel_rfl) (by kernel_rfl) ⟨by kernel_rfl, by kernel_rfl, trivial⟩
 refine ki (bn (xi (so ?_)))
 let a15 : St := a12.p [(32, (.ptr 1000000 0))]
 refine st 1 a15 (callg_step ⟨[(1000000, 1000000)], [], [], [], [], [], [], [], []⟩ (m := sL3Sign y1.2) (S' := fun (y : (List UInt8) × GL1Cur) => ⟨(33, (vS y.1)) :: a15.env, [(2, [(vI 0), (vS []), (vI 0)]), (1000000, bGL1Cur y.2)]⟩) h (OK_sL3Sign y1.2) (by kernel_rfl) (by kernel_rfl) (by kernel_rfl) (by kernel_rfl) (fun y => by kernel_rfl) (fun y => by kernel_rfl) ?_)
 clear h; intro y10 h
 let a16 : St := ⟨(34, (vGToken (GToken.mk 5 y10.1 0))) :: (33, (vS y10.1)) :: a15.env, [(2, bGToken (GToken.mk 5 y10.1 0)), (1000000, bGL1Cur y10.2)]⟩
 refine st 2 a16 (nx (ri ?_))
 injection h with h; subst h
 exact ret1_step (v := (vGToken (GToken.mk 5 y10.1 0))) (by kernel_rfl) (by kernel_rfl) ⟨by kernel_rfl, by kernel_rfl, trivial⟩
theorem OK_sL3Bent (p0 : GL1Cur) : FOkB Tryz.prog 61 [(.ptr 1000000 0)] [(1000000, bGL1Cur p0)] (fun (y : GToken × GL1Cur) => (vGToken y.1)) (fun (y : GToken × GL1Cur) => [(1000000, bGL1Cur y.2)]) (sL3Bent p0) := by
 intro r h
 rw [sL3Bent] at h
 refine acalls_of_fn trsL3Bent (Nat.le_of_ble_eq_true rfl) (by intro n hn; simp at hn; simp only [NX]; omega) ?_
 show avc Tryz.prog acsL3Bent (qsL3Bent _) ⟨[(0, (.ptr 1000000 0))], [(1000000, bGL1Cur p0)]⟩
 delta acsL3Bent
 refine so ?_
 let a0 : St := ⟨[(2, (.ptr 2 0)), (0, (.ptr 1000000 0))], [(2, [(vI 0), (vS []), (vI 0)]), (1000000, bGL1Cur p0)]⟩
 refine st 1 a0 (nx (so ?_))
 let a1 : St := a0.p [(4, (.ptr 1000000 0))]
 refine st 1 a1 (callg_step ⟨[(1000000, 1000000)], [], [], [], [], [], [], [], []⟩ (m := sL3Token p0) (S' := fun (y : GToken × GL1Cur) => ⟨(5, (vGToken y.1)) :: a1.env, [(2, [(vI 0), (vS []), (vI 0)]), (1000000, bGL1Cur y.2)]⟩) h (OK_sL3Token p0) (by kernel_rfl) (by kernel_rfl) (by kernel_rfl) (by kernel_rfl) (fun y => by kernel_rfl) (fun y => by kernel_rfl) ?_)
 clear h; intro y1 h
 let a2 : St := ⟨(3, (.ptr 3 0)) :: (5, (vGToken y1.1)) :: a1.env, [(3, bGToken y1.1), (2, [(vI 0), (vS []), (vI 0)]), (1000000, bGL1Cur y1.2)]⟩
 refine st 2 a2 (nx (si (so ?_)))
 let a3 : St := a2.p [(6, (.ptr 1000000 0))]
 refine st 1 a3 (callg_step ⟨[(1000000, 1000000)], [], [], [], [], [], [], [], []⟩ (m := sL1Below y1.2 10) (S' := fun (y : Int × GL1Cur) => ⟨(7, (vI y.1)) :: a3.env, [(3, bGToken y1.1), (2, [(vI 0), (vS []), (vI 0)]), (1000000, bGL1Cur y.2)]⟩) h (OK_sL1Below y1.2 10) (by kernel_rfl) (by kernel_rfl) (by kernel_rfl) (by kernel_rfl) (fun y => by kernel_rfl) (fun y => by kernel_rfl) ?_)
 clear h; intro y2 h
 refine nx (bi (so ?_))
 let a4 : St := ⟨(8, (vB (decide (y2.1 = 0)))) :: (9, (vB (decide (y2.1 = 0)))) :: (7, (vI y2.1)) :: a3.env, [(3, bGToken y1.1), (2, [(vI 0), (vS []), (vI 0)]), (1000000, bGL1Cur y2.2)]⟩
 refine st 2 a4 (nx ?_)
 refine cd h (fun h => ?_) fun h => ?_
 refine oi ?_
 let a5 : St := a4.p [(10, (.ptr 1000000 0))]
 refine st 1 a5 (callg_step ⟨[(1000000, 1000000)], [], [], [], [], [], [], [], []⟩ (m := sL1Below y2.2 7) (S' := fun (y : Int × GL1Cur) => ⟨(11, (vI y.1)) :: a5.env, [(3, bGToken y1.1), (2, [(vI 0), (vS []), (vI 0)]), (1000000, bGL1Cur y.2)]⟩) h (OK_sL1Below y2.2 7) (by kernel_rfl) (by kernel_rfl) (by kernel_rfl) (by kernel_rfl) (fun y => by kernel_rfl) (fun y => by kernel_rfl) ?_)
 clear h; intro y3 h
 let a6 : St := ⟨(12, (.ptr 3 0)) :: (11, (vI y3.1)) :: a5.env, [(3, bGToken (GToken.mk y3.1 y1.1.text y1.1.at_)), (2, [(vI 0), (vS []), (vI 0)]), (1000000, bGL1Cur y3.2)]⟩
 exact st 2 a6 (ni (bn (next_step (s' := stsL3Bent_J0 y3.1 y1.1.text y1.1.at_ y3.2.b y3.2.i y3.2.h) (wr [] (es (es er_nil)) (bs_ (bs_ (bs_ br_nil)))) (OK_sL3Bent_J0 y3.1 y1.1.text y1.1.at_ y3.2.b y3.2.i y3.2.h _ h))))
 refine so ?_
 let a7 : St := a4.p [(13, (vB (decide (y2.1 = 1)))), (14, (vB (decide (y2.1 = 1))))]
 refine st 2 a7 (nx ?_)
 refine cd h (fun h => ?_) fun h => ?_
 refine oi ?_
 let a8 : St := a7.p [(15, (.ptr 1000000 0))]
 refine st 1 a8 ?_
 refine bsl_step (l := ([[], [115, 101, 108, 101, 99, 116], [83, 69, 76, 69, 67, 84, 83], [48, 49], [57, 50, 50, 51, 51, 55, 50, 48, 51, 54, 56, 53, 52, 55, 55, 53, 56, 48, 56], [61, 62], [124], [97, 98, 99, 100, 101, 102, 103, 104, 105, 106, 107, 108, 109, 110, 111, 112, 113, 114, 115, 116, 117], [49, 50, 51, 52, 53, 54, 55, 56, 57, 48, 49, 50, 51, 52, 53, 54, 55, 56, 57, 48, 49, 50, 51, 52, 53, 54, 55, 56, 57, 48, 49, 50, 51, 52, 53, 54, 55, 56, 57, 48, 49]] : List (List UInt8))) (f := cStr) (g := cStr) (by kernel_rfl) (fun _ => rfl) (by kernel_rfl) ?_
 refine callg_step ⟨[(1000000, 1000000)], [], [], [], [], [], [], [], []⟩ (m := sL1Pick y2.2 ([[], [115, 101, 108, 101, 99, 116], [83, 69, 76, 69, 67, 84, 83], [48, 49], [57, 50, 50, 51, 51, 55, 50, 48, 51, 54, 56, 53, 52, 55, 55, 53, 56, 48, 56], [61, 62], [124], [97, 98, 99, 100, 101, 102, 103, 104, 105, 106, 107, 108, 109, 110, 111, 112, 113, 114, 115, 116, 117], [49, 50, 51, 52, 53, 54, 55, 56, 57, 48, 49, 50, 51, 52, 53, 54, 55, 56, 57, 48, 49, 50, 51, 52, 53, 54, 55, 56, 57, 48, 49, 50, 51, 52, 53, 54, 55, 56, 57, 48, 49]] : List (List UInt8))) (S' := fun (y : (List UInt8) × GL1Cur) => ⟨(17, (vS y.1)) :: (16, (.osl 16 9 1 (([[], [115, 101, 108, 101, 99, 116], [83, 69, 76, 69, 67, 84, 83], [48, 49], [57, 50, 50, 51, 51, 55, 50, 48, 51, 54, 56, 53, 52, 55, 55, 53, 56, 48, 56], [61, 62], [124], [97, 98, 99, 100, 101, 102, 103, 104, 105, 106, 107, 108, 109, 110, 111, 112, 113, 114, 115, 116, 117], [49, 50, 51, 52, 53, 54, 55, 56, 57, 48, 49, 50, 51, 52, 53, 54, 55, 56, 57, 48, 49, 50, 51, 52, 53, 54, 55, 56, 57, 48, 49, 50, 51, 52, 53, 54, 55, 56, 57, 48, 49]] : List (List UInt8)).map cStr))) :: a8.env, [(3, bGToken y1.1), (2, [(vI 0), (vS []), (vI 0)]), (1000000, bGL1Cur y.2)]⟩) h (OK_sL1Pick y2.2 ([[], [115, 101, 108, 101, 99, 116], [83, 69, 76, 69, 67, 84, 83], [48, 49], [57, 50, 50, 51, 51, 55, 50, 48, 51, 54, 56, 53, 52, 55, 55, 53, 56, 48, 56], [61, 62], [124], [97, 98, 99, 100, 101, 102, 103, 104, 105, 106, 107, 108, 109, 110, 111, 112, 113, 114, 115, 116, 117], [49, 50, 51, 52, 53, 54, 55, 56, 57, 48, 49, 50, 51, 52, 53, 54, 55, 56, 57, 48, 49, 50, 51, 52, 53, 54, 55, 56, 57, 48, 49, 50, 51, 52, 53, 54, 55, 56, 57, 48, 49]] : List (List UInt8))) (by kernel_rfl) (by kernel_rfl) (by kernel_rfl) (by kernel_rfl) (fun y => by kernel_rfl) (fun y => by kernel_rfl) ?_
 clear h; intro y4 h
 let a9 : St := ⟨(18, (.ptr 3 1)) :: (17, (vS y4.1)) :: (16, (.osl 16 9 1 (([[], [115, 101, 108, 101, 99, 116], [83, 69, 76, 69, 67, 84, 83], [48, 49], [57, 50, 50, 51, 51, 55, 50, 48, 51, 54, 56, 53, 52, 55, 55, 53, 56, 48, 56], [61, 62], [124], [97, 98, 99, 100, 101, 102, 103, 104, 105, 106, 107, 108, 109, 110, 111, 112, 113, 114, 115, 116, 117], [49, 50, 51, 52, 53, 54, 55, 56, 57, 48, 49, 50, 51, 52, 53, 54, 55, 56, 57, 48, 49, 50, 51, 52, 53, 54, 55, 56, 57, 48, 49, 50, 51, 52, 53, 54, 55, 56, 57, 48, 49]] : List (List UInt8)).map cStr))) :: a8.env, [(3, bGToken (GToken.mk y1.1.kind y4.1 y1.1.at_)), (2, [(vI 0), (vS []), (vI 0)]), (1000000, bGL1Cur y4.2)]⟩
 exact st 2 a9 (ni (bn (next_step (s' := stsL3Bent_J0 y1.1.kind y4.1 y1.1.at_ y4.2.b y4.2.i y4.2.h) (wr [] (es (es er_nil)) (bs_ (bs_ (bs_ br_nil)))) (OK_sL3Bent_J0 y1.1.kind y4.1 y1.1.at_ y4.2.b y4.2.i y4.2.h _ h))))
 refine so ?_
 let a10 : St := a7.p [(19, (vB (decide (y2.1 = 2)))), (20, (vB (decide (y2.1 = 2))))]
 refine st 2 a10 (nx ?_)
 refine cd h (fun h => ?_) fun h => ?_
 refine oi ?_
 let a11 : St := a10.p [(21, (.ptr 1000000 0))]
 refine st 1 a11 (callg_step ⟨[(1000000, 1000000)], [], [], [], [], [], [], [], []⟩ (m := sL1Whole y2.2) (S' := fun (y : Int × GL1Cur) => ⟨(22, (vI y.1)) :: a11.env, [(3, bGToken y1.1), (2, [(vI 0), (vS []), (vI 0)]), (1000000, bGL1Cur y.2)]⟩) h (OK_sL1Whole y2.2) (by kernel_rfl) (by kernel_rfl) (by kernel_rfl) (by kernel_rfl) (fun y => by kernel_rfl) (fun y => by kernel_rfl) ?_)
 clear h; intro y5 h
 let a12 : St := ⟨(23, (.ptr 3 2)) :: (22, (vI y5.1)) :: a11.env, [(3, bGToken (GToken.mk y1.1.kind y1.1.text y5.1)), (2, [(vI 0), (vS []), (vI 0)]), (1000000, bGL1Cur y5.2)]⟩
 exact st 2 a12 (ni (bn (next_step (s' := stsL3Bent_J0 y1.1.kind y1.1.text y5.1 y5.2.b y5.2.i y5.2.h) (wr [] (es (es er_nil)) (bs_ (bs_ (bs_ br_nil)))) (OK_sL3Bent_J0 y1.1.kind y1.1.text y5.1 y5.2.b y5.2.i y5.2.h _ h))))
 exact ki (bn (next_step (s' := stsL3Bent_J0 y1.1.kind y1.1.text y1.1.at_ y2.2.b y2.2.i y2.2.h) (wr [] (es (es er_nil)) (bs_ (bs_ (bs_ br_nil)))) (OK_sL3Bent_J0 y1.1.kind y1.1.text y1.1.at_ y2.2.b y2.2.i y2.2.h _ h)))
theorem OKs_sL3List_L0 (p1 : Int) : (∀ (x5 : (List GToken)) (x6 : Int) (b1000000_0 : (List Int)) (b1000000_1 : Int) (b1000000_2 : Int) (r : (List GToken) × GL1Cur), sL3List_L0 p1 x5 x6 b1000000_0 b1000000_1 b1000000_2 = some r → avc Tryz.prog acsL3List_L0 (qsL3List_1 r) (stsL3List_L0 p1 x5 x6 b1000000_0 b1000000_1 b1000000_2)) := by
 refine sL3List_L0.partial_correctness p1 (fun x5 x6 b1000000_0 b1000000_1 b1000000_2 r => avc Tryz.prog acsL3List_L0 (qsL3List_1 r) (stsL3List_L0 p1 x5 x6 b1000000_0 b1000000_1 b1000000_2)) ?_
 · intro F_sL3List_L0 OK_sL3List_L0 x5 x6 b1000000_0 b1000000_1 b1000000_2 r h
   delta acsL3List_L0
   refine loop_unroll (si (so ?_))
   let a3 : St := (stsL3List_L0 p1 x5 x6 b1000000_0 b1000000_1 b1000000_2).p [(10, (vB (decide (x6 < p1)))), (9, (vI p1)), (8, (vI x6))]
   refine st 3 a3 (nx ?_)
   refine cd h (fun h => ?_) fun h => ?_
   refine ki (xi (si (bi (oi ?_))))
   let a4 : St := a3.p [(14, (.ptr 1000000 0)), (13, (.osl 5 53 3 (x5.map cGToken)))]
   refine st 2 a4 ?_
   refine callg_step ⟨[(1000000, 1000000)], [], [], [], [], [], [], [], []⟩ (m := sL3Token (GL1Cur.mk b1000000_0 b1000000_1 b1000000_2)) (S' := fun (y : GToken × GL1Cur) => ⟨(15, (vGToken y.1)) :: a4.env, [(1000000, bGL1Cur y.2)]⟩) h (OK_sL3Token (GL1Cur.mk b1000000_0 b1000000_1 b1000000_2)) (by kernel_rfl) (by kernel_rfl) (by kernel_rfl) (by kernel_rfl) (fun y => by kernel_rfl) (fun y => by kernel_rfl) ?_
   clear h; intro y1 h
   refine bsl_step (l := ([y1.1] : List GToken)) (f := cGToken) (g := cGToken) (by kernel_rfl) (fun _ => rfl) (by kernel_rfl) ?_
   refine app_step (t := 5) (l := x5) (m := ([y1.1] : List GToken)) (f := cGToken) (S' := fun y => ⟨[(17, (.osl 17 53 3 (y.map cGToken))), (16, (.osl 16 53 3 (([y1.1] : List GToken).map cGToken))), (15, (vGToken y1.1)), (14, (.ptr 1000000 0)), (13, (.d (.sl 3 (x5.map cGToken)))), (10, (vB (decide (x6 < p1)))), (9, (vI p1)), (8, (vI x6)), (0, (.ptr 1000000 0)), (1, (vI p1)), (5, (.d (.sl 3 (x5.map cGToken)))), (6, (vI x6))], [(1000000, bGL1Cur y1.2)]⟩) h (by kernel_rfl) (by kernel_rfl) (by kernel_rfl) (by kernel_rfl) (fun y => by kernel_rfl) ?_
   clear h; intro y2 h
   let a5 : St := ⟨[(5, (.osl 5 53 3 (y2.map cGToken))), (17, (.d (.sl 3 (y2.map cGToken)))), (16, (.osl 16 53 3 (([y1.1] : List GToken).map cGToken))), (15, (vGToken y1.1)), (14, (.ptr 1000000 0)), (13, (.d (.sl 3 (x5.map cGToken)))), (10, (vB (decide (x6 < p1)))), (9, (vI p1)), (8, (vI x6)), (0, (.ptr 1000000 0)), (1, (vI p1)), (5, (.d (.sl 3 (x5.map cGToken)))), (6, (vI x6))], [(1000000, bGL1Cur y1.2)]⟩
   refine st 1 a5 (ni (bn (xi (oi ?_))))
   let a6 : St := a5.p [(6, (vI (IntKind.wrap .i64 (x6 + 1)))), (12, (vI (IntKind.wrap .i64 (x6 + 1)))), (11, (vI x6))]
   exact st 3 a6 (ni (loop_back (s' := stsL3List_L0 p1 y2 (IntKind.wrap .i64 (x6 + 1)) y1.2.b y1.2.i y1.2.h) (wr [(5, .old 5)] (es (es (eo 5 (es er_nil)))) (bs_ br_nil)) (OK_sL3List_L0 y2 (IntKind.wrap .i64 (x6 + 1)) y1.2.b y1.2.i y1.2.h _ h)))
   refine ei (te (te (bh (xi (so ?_)))))
   let a7 : St := ⟨[(4, (.osl 4 53 3 (x5.map cGToken))), (18, (.d (.sl 3 (x5.map cGToken)))), (10, (vB (decide (x6 < p1)))), (9, (vI p1)), (8, (vI x6)), (0, (.ptr 1000000 0)), (1, (vI p1)), (5, (.d (.sl 3 (x5.map cGToken)))), (6, (vI x6))], [(1000000, bGL1Cur (GL1Cur.mk b1000000_0 b1000000_1 b1000000_2))]⟩
   refine st 2 a7 (nx ?_)
   refine ret_wk (s' := ⟨[(4, (.osl 2000000 53 3 (x5.map cGToken)))], [(1000000, bGL1Cur (GL1Cur.mk b1000000_0 b1000000_1 b1000000_2))]⟩) (wr [(2000000, .old 4)] (eo 4 er_nil) (br_cons (c0 := [(.d (.sl 1 (b1000000_0.map cU8))), (vI b1000000_1), (vI b1000000_2)]) (by kernel_rfl) (vrs_cons (vr_same (by kernel_rfl) (by kernel_rfl)) (vrs_cons (vr_same (by kernel_rfl) (by kernel_rfl)) (vrs_cons (vr_same (by kernel_rfl) (by kernel_rfl)) (vrs_nil)))) br_nil)) ?_
   injection h with h; subst h
   exact ret1_step (v := (.osl 2000000 53 3 (x5.map cGToken))) (by kernel_rfl) (by kernel_rfl) ⟨by kernel_rfl, by kernel_rfl, trivial⟩
theorem OK_sL3List_L0 (p1 : Int) (x5 : (List GToken)) (x6 : Int) (b1000000_0 : (List Int)) (b1000000_1 : Int) (b1000000_2 : Int) (r : (List GToken) × GL1Cur) (h : sL3List_L0 p1 x5 x6 b1000000_0 b1000000_1 b1000000_2 = some r) : avc Tryz.prog acsL3List_L0 (qsL3List_1 r) (stsL3List_L0 p1 x5 x6 b1000000_0 b1000000_1 b1000000_2) := (OKs_sL3List_L0 p1) x5 x6 b1000000_0 b1000000_1 b1000000_2 r h
theorem OK_sL3List (p0 : GL1Cur) (p1 : Int) : FOkB Tryz.prog 58 [(.ptr 1000000 0), (vI p1)] [(1000000, bGL1Cur p0)] (fun (y : (List GToken) × GL1Cur) => (.osl 2000000 53 3 (y.1.map cGToken))) (fun (y : (List GToken) × GL1Cur) => [(1000000, bGL1Cur y.2)]) (sL3List p0 p1) := by
 intro r h
 rw [sL3List] at h
 refine acalls_of_fn trsL3List (Nat.le_of_ble_eq_true rfl) (by intro n hn; simp at hn; simp only [NX]; omega) ?_
 show avc Tryz.prog acsL3List (qsL3List _) ⟨[(0, (.ptr 1000000 0)), (1, (vI p1))], [(1000000, bGL1Cur p0)]⟩
 delta acsL3List
 refine so ?_
 let a0 : St := ⟨[(4, (.nil 3)), (0, (.ptr 1000000 0)), (1, (vI p1))], [(1000000, bGL1Cur p0)]⟩
 refine st 1 a0 (nx (so (bsl_step (l := ([] : List GToken)) (f := cGToken) (g := cGToken) (by kernel_rfl) (fun _ => rfl) (by kernel_rfl) ?_)))
 let a1 : St := a0.p [(5, (.osl 5 53 3 (([] : List GToken).map cGToken))), (7, (.d (.sl 3 (([] : List GToken).map cGToken))))]
 refine st 1 a1 (nx (si (so ?_)))
 let a2 : St := a1.p [(6, (vI 0))]
 exact st 1 a2 (nx (bi (loop_go (s' := stsL3List_L0 p1 ([] : List GToken) 0 p0.b p0.i p0.h) (wr [(5, .old 5)] (es (es (eo 5 (es er_nil)))) (bs_ br_nil)) (OK_sL3List_L0 p1 ([] : List GToken) 0 p0.b p0.i p0.h _ h))))
theorem OK_sL4List_J2 (y6 : Bool × GL1Cur) (x3_8 : (List GToken)) (r : (List GToken) × GL1Cur) (h : sL4List_J2 y6 x3_8 = some r) : avc Tryz.prog acsL4List_J2 (qsL4List r) (stsL4List_J2 y6 x3_8) := by
 rw [sL4List_J2] at h
 delta acsL4List_J2
 refine so ?_
 let a12 : St := ⟨[(2, (.osl 2 53 3 (x3_8.map cGToken))), (26, (.d (.sl 3 (x3_8.map cGToken)))), (3, (.d (.sl 3 (x3_8.map cGToken))))], [(1000000, bGL1Cur y6.2)]⟩
 refine st 2 a12 (nx ?_)
 refine ret_wk (s' := ⟨[(2, (.osl 2000000 53 3 (x3_8.map cGToken)))], [(1000000, bGL1Cur y6.2)]⟩) (wr [(2000000, .old 2)] (eo 2 er_nil) (br_cons (c0 := [(.d (.sl 1 (y6.2.b.map cU8))), (vI y6.2.i), (vI y6.2.h)]) (by kernel_rfl) (vrs_cons (vr_same (by kernel_rfl) (by kernel_rfl)) (vrs_cons (vr_same (by kernel_rfl) (by kernel_rfl)) (vrs_cons (vr_same (by kernel_rfl) (by kernel_rfl)) (vrs_nil)))) br_nil)) ?_
 injection h with h; subst h
 exact ret1_step (v := (.osl 2000000 53 3 (x3_8.map cGToken))) (by kernel_rfl) (by kernel_rfl) ⟨by kernel_rfl, by kernel_rfl, trivial⟩
theorem OKs_sL4List_L1 (y6 : Bool × GL1Cur) : (∀ (x3_7 : (List GToken)) (x4 : Int) (r : (List GToken) × GL1Cur), sL4List_L1 y6 x3_7 x4 = some r → avc Tryz.prog acsL4List_L1 (qsL4List_1 r) (stsL4List_L1 y6 x3_7 x4)) := by
 refine sL4List_L1.partial_correctness y6 (fun x3_7 x4 r => avc Tryz.prog acsL4List_L1 (qsL4List_1 r) (stsL4List_L1 y6 x3_7 x4)) ?_
 · intro F_sL4List_L1 OK_sL4List_L1 x3_7 x4 r h
   delta acsL4List_L1
   refine loop_unroll (si (so ?_))
   let a8 : St := (stsL4List_L1 y6 x3_7 x4).p [(19, (vB (decide (x4 < 49)))), (18, (vI x4))]
   refine st 2 a8 (nx ?_)
   refine cd h (fun h => ?_) fun h => ?_
   refine ki (xi (si (bi (oi ?_))))
   let a9 : St := a8.p [(23, (vGToken (GToken.mk 4 [49, 50, 51, 52, 53, 54, 55, 56, 57, 48, 49, 50, 51, 52, 53, 54, 55, 56, 57, 48, 49, 50, 51, 52, 53, 54, 55, 56, 57, 48, 49, 50, 51, 52, 53, 54, 55, 56, 57, 48] 0))), (22, (.osl 3 53 3 (x3_7.map cGToken)))]
   refine st 2 a9 (bsl_step (l := ([(GToken.mk 4 [49, 50, 51, 52, 53, 54, 55, 56, 57, 48, 49, 50, 51, 52, 53, 54, 55, 56, 57, 48, 49, 50, 51, 52, 53, 54, 55, 56, 57, 48, 49, 50, 51, 52, 53, 54, 55, 56, 57, 48] 0)] : List GToken)) (f := cGToken) (g := cGToken) (by kernel_rfl) (fun _ => rfl) (by kernel_rfl) ?_)
   refine app_step (t := 3) (l := x3_7) (m := ([(GToken.mk 4 [49, 50, 51, 52, 53, 54, 55, 56, 57, 48, 49, 50, 51, 52, 53, 54, 55, 56, 57, 48, 49, 50, 51, 52, 53, 54, 55, 56, 57, 48, 49, 50, 51, 52, 53, 54, 55, 56, 57, 48] 0)] : List GToken)) (f := cGToken) (S' := fun y => ⟨[(25, (.osl 25 53 3 (y.map cGToken))), (24, (.osl 24 53 3 (([(GToken.mk 4 [49, 50, 51, 52, 53, 54, 55, 56, 57, 48, 49, 50, 51, 52, 53, 54, 55, 56, 57, 48, 49, 50, 51, 52, 53, 54, 55, 56, 57, 48, 49, 50, 51, 52, 53, 54, 55, 56, 57, 48] 0)] : List GToken).map cGToken))), (23, (vGToken (GToken.mk 4 [49, 50, 51, 52, 53, 54, 55, 56, 57, 48, 49, 50, 51, 52, 53, 54, 55, 56, 57, 48, 49, 50, 51, 52, 53, 54, 55, 56, 57, 48, 49, 50, 51, 52, 53, 54, 55, 56, 57, 48] 0))), (22, (.d (.sl 3 (x3_7.map cGToken)))), (19, (vB (decide (x4 < 49)))), (18, (vI x4)), (3, (.d (.sl 3 (x3_7.map cGToken)))), (4, (vI x4))], [(1000000, bGL1Cur y6.2)]⟩) h (by kernel_rfl) (by kernel_rfl) (by kernel_rfl) (by kernel_rfl) (fun y => by kernel_rfl) ?_
   clear h; intro y9 h
   let a10 : St := ⟨[(3, (.osl 3 53 3 (y9.map cGToken))), (25, (.d (.sl 3 (y9.map cGToken)))), (24, (.osl 24 53 3 (([(GToken.mk 4 [49, 50, 51, 52, 53, 54, 55, 56, 57, 48, 49, 50, 51, 52, 53, 54, 55, 56, 57, 48, 49, 50, 51, 52, 53, 54, 55, 56, 57, 48, 49, 50, 51, 52, 53, 54, 55, 56, 57, 48] 0)] : List GToken).map cGToken))), (23, (vGToken (GToken.mk 4 [49, 50, 51, 52, 53, 54, 55, 56, 57, 48, 49, 50, 51, 52, 53, 54, 55, 56, 57, 48, 49, 50, 51, 52, 53, 54, 55, 56, 57, 48, 49, 50, 51, 52, 53, 54, 55, 56, 57, 48] 0))), (22, (.d (.sl 3 (x3_7.map cGToken)))), (19, (vB (decide (x4 < 49)))), (18, (vI x4)), (3, (.d (.sl 3 (x3_7.map cGToken)))), (4, (vI x4))], [(1000000, bGL1Cur y6.2)]⟩
   refine st 1 a10 (ni (bn (xi (oi ?_))))
   let a11 : St := a10.p [(4, (vI (IntKind.wrap .i64 (x4 + 1)))), (21, (vI (IntKind.wrap .i64 (x4 + 1)))), (20, (vI x4))]
   exact st 3 a11 (ni (loop_back (s' := stsL4List_L1 y6 y9 (IntKind.wrap .i64 (x4 + 1))) (wr [(3, .old 3)] (eo 3 (es er_nil)) (bs_ br_nil)) (OK_sL4List_L1 y9 (IntKind.wrap .i64 (x4 + 1)) _ h)))
   exact ei (te (te (bh (next_step (s' := stsL4List_J2 y6 x3_7) (wr [(3, .old 3)] (eo 3 er_nil) (bs_ br_nil)) (OK_sL4List_J2 y6 x3_7 _ h)))))
theorem OK_sL4List_L1 (y6 : Bool × GL1Cur) (x3_7 : (List GToken)) (x4 : Int) (r : (List GToken) × GL1Cur) (h : sL4List_L1 y6 x3_7 x4 = some r) : avc Tryz.prog acsL4List_L1 (qsL4List_1 r) (stsL4List_L1 y6 x3_7 x4) := (OKs_sL4List_L1 y6) x3_7 x4 r h
theorem OK_sL4List_J0 (x3 : (List GToken)) (b1000000_0 : (List Int)) (b1000000_1 : Int) (b1000000_2 : Int) (r : (List GToken) × GL1Cur) (h : sL4List_J0 x3 b1000000_0 b1000000_1 b1000000_2 = some r) : avc Tryz.prog acsL4List_J0 (qsL4List r) (stsL4List_J0 x3 b1000000_0 b1000000_1 b1000000_2) := by
 rw [sL4List_J0] at h
 delta acsL4List_J0
 refine si (so ?_)
 let a6 : St := (stsL4List_J0 x3 b1000000_0 b1000000_1 b1000000_2).p [(16, (.ptr 1000000 0))]
 refine st 1 a6 ?_
 refine callg_step ⟨[(1000000, 1000000)], [], [], [], [], [], [], [], []⟩ (m := sL1Once (GL1Cur.mk b1000000_0 b1000000_1 b1000000_2) 60) (S' := fun (y : Bool × GL1Cur) => ⟨(17, (vB y.1)) :: a6.env, [(1000000, bGL1Cur y.2)]⟩) h (OK_sL1Once (GL1Cur.mk b1000000_0 b1000000_1 b1000000_2) 60) (by kernel_rfl) (by kernel_rfl) (by kernel_rfl) (by kernel_rfl) (fun y => by kernel_rfl) (fun y => by kernel_rfl) ?_
 clear h; intro y6 h
 refine nx ?_
 refine cd h (fun h => ?_) fun h => ?_
 refine so ?_
 let a7 : St := ⟨(4, (vI 0)) :: (17, (vB y6.1)) :: a6.env, [(1000000, bGL1Cur y6.2)]⟩
 exact st 1 a7 (nx (bi (loop_go (s' := stsL4List_L1 y6 x3 0) (wr [(3, .old 3)] (eo 3 (es er_nil)) (bs_ br_nil)) (OK_sL4List_L1 y6 x3 0 _ h))))
 exact ki (next_step (s' := stsL4List_J2 y6 x3) (wr [(3, .old 3)] (eo 3 er_nil) (bs_ br_nil)) (OK_sL4List_J2 y6 x3 _ h))
theorem OK_sL4List (p0 : GL1Cur) : FOkB Tryz.prog 35 [(.ptr 1000000 0)] [(1000000, bGL1Cur p0)] (fun (y : (List GToken) × GL1Cur) => (.osl 2000000 53 3 (y.1.map cGToken))) (fun (y : (List GToken) × GL1Cur) => [(1000000, bGL1Cur y.2)]) (sL4List p0) := by
 intro r h
 rw [sL4List] at h
 refine acalls_of_fn trsL4List (Nat.le_of_ble_eq_true rfl) (by intro n hn; simp at hn; simp only [NX]; omega) ?_
 show avc Tryz.prog acsL4List (qsL4List _) ⟨[(0, (.ptr 1000000 0))], [(1000000, bGL1Cur p0)]⟩
 delta acsL4List
 refine so ?_
 let a0 : St := ⟨[(2, (.nil 3)), (0, (.ptr 1000000 0))], [(1000000, bGL1Cur p0)]⟩
 refine st 1 a0 (nx (so ?_))
 let a1 : St := a0.p [(6, (.ptr 1000000 0)), (5, (.ptr 1000000 0))]
 refine st 2 a1 (callg_step ⟨[(1000000, 1000000)], [], [], [], [], [], [], [], []⟩ (m := sL1Below p0 9) (S' := fun (y : Int × GL1Cur) => ⟨(7, (vI y.1)) :: a1.env, [(1000000, bGL1Cur y.2)]⟩) h (OK_sL1Below p0 9) (by kernel_rfl) (by kernel_rfl) (by kernel_rfl) (by kernel_rfl) (fun y => by kernel_rfl) (fun y => by kernel_rfl) ?_)
 clear h; intro y1 h
 refine callg_step ⟨[(1000000, 1000000)], [], [], [], [], [(2000000, 8)], [], [8], []⟩ (m := sL3List y1.2 y1.1) (S' := fun (y : (List GToken) × GL1Cur) => ⟨(8, (.osl 8 53 3 (y.1.map cGToken))) :: (7, (vI y1.1)) :: a1.env, [(1000000, bGL1Cur y.2)]⟩) h (OK_sL3List y1.2 y1.1) (by kernel_rfl) (by kernel_rfl) (by kernel_rfl) (by kernel_rfl) (fun y => by kernel_rfl) (fun y => by kernel_rfl) ?_
 clear h; intro y2 h
 let a2 : St := ⟨(3, (.osl 3 53 3 (y2.1.map cGToken))) :: (8, (.d (.sl 3 (y2.1.map cGToken)))) :: (7, (vI y1.1)) :: a1.env, [(1000000, bGL1Cur y2.2)]⟩
 refine st 1 a2 (nx (si (so ?_)))
 let a3 : St := a2.p [(9, (.ptr 1000000 0))]
 refine st 1 a3 (callg_step ⟨[(1000000, 1000000)], [], [], [], [], [], [], [], []⟩ (m := sL1Once y2.2 10) (S' := fun (y : Bool × GL1Cur) => ⟨(10, (vB y.1)) :: a3.env, [(1000000, bGL1Cur y.2)]⟩) h (OK_sL1Once y2.2 10) (by kernel_rfl) (by kernel_rfl) (by kernel_rfl) (by kernel_rfl) (fun y => by kernel_rfl) (fun y => by kernel_rfl) ?_)
 clear h; intro y3 h
 refine nx ?_
 refine cd h (fun h => ?_) fun h => ?_
 refine oi ?_
 let a4 : St := ⟨(12, (.ptr 1000000 0)) :: (11, (.osl 3 53 3 (y2.1.map cGToken))) :: (10, (vB y3.1)) :: a3.env, [(1000000, bGL1Cur y3.2)]⟩
 refine st 2 a4 (callg_step ⟨[(1000000, 1000000)], [], [], [], [], [], [], [], []⟩ (m := sL3Bent y3.2) (S' := fun (y : GToken × GL1Cur) => ⟨(13, (vGToken y.1)) :: a4.env, [(1000000, bGL1Cur y.2)]⟩) h (OK_sL3Bent y3.2) (by kernel_rfl) (by kernel_rfl) (by kernel_rfl) (by kernel_rfl) (fun y => by kernel_rfl) (fun y => by kernel_rfl) ?_)
 clear h; intro y4 h
 refine bsl_step (l := ([y4.1] : List GToken)) (f := cGToken) (g := cGToken) (by kernel_rfl) (fun _ => rfl) (by kernel_rfl) ?_
 refine app_step (t := 3) (l := y2.1) (m := ([y4.1] : List GToken)) (f := cGToken) (S' := fun y => ⟨[(15, (.osl 15 53 3 (y.map cGToken))), (14, (.osl 14 53 3 (([y4.1] : List GToken).map cGToken))), (13, (vGToken y4.1)), (12, (.ptr 1000000 0)), (11, (.d (.sl 3 (y2.1.map cGToken)))), (10, (vB y3.1)), (9, (.ptr 1000000 0)), (3, (.d (.sl 3 (y2.1.map cGToken)))), (8, (.d (.sl 3 (y2.1.map cGToken)))), (7, (vI y1.1)), (6, (.ptr 1000000 0)), (5, (.ptr 1000000 0)), (2, (.nil 3)), (0, (.ptr 1000000 0))], [(1000000, bGL1Cur y4.2)]⟩) h (by kernel_rfl) (by kernel_rfl) (by kernel_rfl) (by kernel_rfl) (fun y => by kernel_rfl) ?_
 clear h; intro y5 h
 let a5 : St := ⟨[(3, (.osl 3 53 3 (y5.map cGToken))), (15, (.d (.sl 3 (y5.map cGToken)))), (14, (.osl 14 53 3 (([y4.1] : List GToken).map cGToken))), (13, (vGToken y4.1)), (12, (.ptr 1000000 0)), (11, (.d (.sl 3 (y2.1.map cGToken)))), (10, (vB y3.1)), (9, (.ptr 1000000 0)), (3, (.d (.sl 3 (y2.1.map cGToken)))), (8, (.d (.sl 3 (y2.1.map cGToken)))), (7, (vI y1.1)), (6, (.ptr 1000000 0)), (5, (.ptr 1000000 0)), (2, (.nil 3)), (0, (.ptr 1000000 0))], [(1000000, bGL1Cur y4.2)]⟩
 exact st 1 a5 (ni (next_step (s' := stsL4List_J0 y5 y4.2.b y4.2.i y4.2.h) (wr [(3, .old 3)] (es (eo 3 er_nil)) (bs_ br_nil)) (OK_sL4List_J0 y5 y4.2.b y4.2.i y4.2.h _ h)))
 exact ki (next_step (s' := stsL4List_J0 y2.1 y3.2.b y3.2.i y3.2.h) (wr [(3, .old 3)] (es (eo 3 er_nil)) (bs_ br_nil)) (OK_sL4List_J0 y2.1 y3.2.b y3.2.i y3.2.h _ h))
theorem OK_sDrawSpaced (p0 : (List Int)) : FOkB Tryz.prog 17 [(.d (.sl 1 (p0.map cU8)))] [] (fun (y : (List GToken)) => (.osl 2000000 53 3 (y.map cGToken))) (fun (y : (List GToken)) => []) (sDrawSpaced p0) := by
 intro r h
 rw [sDrawSpaced] at h
 refine aof trsDrawSpaced ?_
 show avc Tryz.prog acsDrawSpaced (qsDrawSpaced _) ⟨[(0, (.d (.sl 1 (p0.map cU8))))], []⟩
 delta acsDrawSpaced
 refine so ?_
 let a0 : St := ⟨[(2, (.nil 3)), (0, (.d (.sl 1 (p0.map cU8))))], []⟩
 refine st 1 a0 (nx (so ?_))
 let a1 : St := a0.p [(3, (.d (.sl 1 (p0.map cU8))))]
 refine st 1 a1 (callg_step ⟨[], [], [], [], [], [], [(31, 4)], [], []⟩ (m := sL1New p0) (S' := fun (y : GL1Cur) => ⟨(4, (.ptr 4 0)) :: a1.env, [(4, bGL1Cur y)]⟩) h (OK_sL1New p0) (by kernel_rfl) (by kernel_rfl) (by kernel_rfl) (by kernel_rfl) (fun y => by kernel_rfl) (fun y => by kernel_rfl) ?_)
 clear h; intro y1 h
 refine callg_step ⟨[(1000000, 4)], [], [], [], [], [(2000000, 5)], [], [5], []⟩ (m := sL4List y1) (S' := fun (y : (List GToken) × GL1Cur) => ⟨(5, (.osl 5 53 3 (y.1.map cGToken))) :: (4, (.ptr 4 0)) :: a1.env, [(4, bGL1Cur y.2)]⟩) h (OK_sL4List y1) (by kernel_rfl) (by kernel_rfl) (by kernel_rfl) (by kernel_rfl) (fun y => by kernel_rfl) (fun y => by kernel_rfl) ?_
 clear h; intro y2 h
 let a2 : St := ⟨(2, (.osl 2 53 3 (y2.1.map cGToken))) :: (5, (.d (.sl 3 (y2.1.map cGToken)))) :: (4, (.ptr 4 0)) :: a1.env, [(4, bGL1Cur y2.2)]⟩
 refine st 1 a2 (nx (ret_wk (s' := ⟨[(2, (.osl 2000000 53 3 (y2.1.map cGToken)))], []⟩) (wr [(2000000, .old 2)] (eo 2 er_nil) br_nil) ?_))
 injection h with h; subst h
 exact ret1_step (v := (.osl 2000000 53 3 (y2.1.map cGToken))) (by kernel_rfl) (by kernel_rfl) ⟨by kernel_rfl, trivial⟩
theorem OKs_sL2Quote_J1 (p0 : (List UInt8)) (p1 : Int) : (∀ (x6 : Int) (x5_3 : (List Int)) (r : (List UInt8)), sL2Quote_J1 p0 p1 x6 x5_3 = some r → avc Tryz.prog acsL2Quote_J1 (qsL2Quote_4 r) (stsL2Quote_J1 p0 p1 x6 x5_3)) ∧ (∀ (x5 : (List Int)) (x6 : Int) (r : (List UInt8)), sL2Quote_L0 p0 p1 x5 x6 = some r → avc Tryz.prog acsL2Quote_L0 (qsL2Quote_1 r) (stsL2Quote_L0 p0 p1 x5 x6)) := by
 refine sL2Quote_J1.mutual_partial_correctness p0 p1 (fun x6 x5_3 r => avc Tryz.prog acsL2Quote_J1 (qsL2Quote_4 r) (stsL2Quote_J1 p0 p1 x6 x5_3)) (fun x5 x6 r => avc Tryz.prog acsL2Quote_L0 (qsL2Quote_1 r) (stsL2Quote_L0 p0 p1 x5 x6)) ?_ ?_
 · intro F_sL2Quote_L0 OK_sL2Quote_L0 x6 x5_3 r h
   delta acsL2Quote_J1
   refine oi ?_
   let a11 : St := (stsL2Quote_J1 p0 p1 x6 x5_3).p [(26, (vI x6)), (25, (vS p0)), (24, (.osl 5 5 1 (x5_3.map cU8)))]
   refine st 3 a11 (vs (fun (y : Int) => (.d (.i .u8 y))) h (fun y hy => vop_ix (b := p0) (k := .i64) hy (by kernel_rfl) (by kernel_rfl) (by kernel_rfl)) fun y6 h => (bsl_step (l := ([y6] : List Int)) (f := cU8) (g := cU8) (by kernel_rfl) (fun _ => rfl) (by kernel_rfl) ?_))
   refine app_step (t := 5) (l := x5_3) (m := ([y6] : List Int)) (f := cU8) (S' := fun y => ⟨[(29, (.osl 29 5 1 (y.map cU8))), (28, (.osl 28 5 1 (([y6] : List Int).map cU8))), (27, (.d (.i .u8 y6))), (26, (vI x6)), (25, (vS p0)), (24, (.d (.sl 1 (x5_3.map cU8)))), (0, (vS p0)), (1, (.d (.i .u8 p1))), (5, (.d (.sl 1 (x5_3.map cU8)))), (6, (vI x6))], []⟩) h (by kernel_rfl) (by kernel_rfl) (by kernel_rfl) (by kernel_rfl) (fun y => by kernel_rfl) ?_
   clear h; intro y7 h
   let a12 : St := ⟨[(5, (.osl 5 5 1 (y7.map cU8))), (29, (.d (.sl 1 (y7.map cU8)))), (28, (.osl 28 5 1 (([y6] : List Int).map cU8))), (27, (.d (.i .u8 y6))), (26, (vI x6)), (25, (vS p0)), (24, (.d (.sl 1 (x5_3.map cU8)))), (0, (vS p0)), (1, (.d (.i .u8 p1))), (5, (.d (.sl 1 (x5_3.map cU8)))), (6, (vI x6))], []⟩
   refine st 1 a12 (ni (bn (xi (oi ?_))))
   let a13 : St := a12.p [(6, (vI (IntKind.wrap .i64 (x6 + 1)))), (14, (vI (IntKind.wrap .i64 (x6 + 1)))), (13, (vI x6))]
   exact st 3 a13 (ni (loop_back (s' := stsL2Quote_L0 p0 p1 y7 (IntKind.wrap .i64 (x6 + 1))) (wr [(5, .old 5)] (es (es (eo 5 (es er_nil)))) br_nil) (OK_sL2Quote_L0 y7 (IntKind.wrap .i64 (x6 + 1)) _ h)))
 · intro F_sL2Quote_J1 OK_sL2Quote_J1 x5 x6 r h
   delta acsL2Quote_L0
   refine loop_unroll (si (so ?_))
   let a4 : St := (stsL2Quote_L0 p0 p1 x5 x6).p [(12, (vB (decide (x6 < (ln p0))))), (11, (vI (ln p0))), (10, (vS p0)), (9, (vI x6))]
   refine st 4 a4 (nx ?_)
   refine cd h (fun h => ?_) fun h => ?_
   refine ki (xi (si (bi (si (so ?_)))))
   let a5 : St := a4.p [(16, (vI x6)), (15, (vS p0))]
   refine st 2 a5 (vs (fun (y : Int) => (.d (.i .u8 y))) h (fun y hy => vop_ix (b := p0) (k := .i64) hy (by kernel_rfl) (by kernel_rfl) (by kernel_rfl)) fun y1 h => ?_)
   let a6 : St := a5.p [(19, (vB (decide (y1 = p1)))), (18, (.d (.i .u8 p1))), (17, (.d (.i .u8 y1)))]
   refine st 2 a6 (nx ?_)
   refine cd h (fun h => ?_) fun h => ?_
   refine oi ?_
   let a7 : St := a6.p [(21, (.d (.i .u8 p1))), (20, (.osl 5 5 1 (x5.map cU8)))]
   refine st 2 a7 (bsl_step (l := ([p1] : List Int)) (f := cU8) (g := cU8) (by kernel_rfl) (fun _ => rfl) (by kernel_rfl) ?_)
   refine app_step (t := 5) (l := x5) (m := ([p1] : List Int)) (f := cU8) (S' := fun y => ⟨[(23, (.osl 23 5 1 (y.map cU8))), (22, (.osl 22 5 1 (([p1] : List Int).map cU8))), (21, (.d (.i .u8 p1))), (20, (.d (.sl 1 (x5.map cU8)))), (19, (vB (decide (y1 = p1)))), (18, (.d (.i .u8 p1))), (17, (.d (.i .u8 y1))), (16, (vI x6)), (15, (vS p0)), (12, (vB (decide (x6 < (ln p0))))), (11, (vI (ln p0))), (10, (vS p0)), (9, (vI x6)), (0, (vS p0)), (1, (.d (.i .u8 p1))), (5, (.d (.sl 1 (x5.map cU8)))), (6, (vI x6))], []⟩) h (by kernel_rfl) (by kernel_rfl) (by kernel_rfl) (by kernel_rfl) (fun y => by kernel_rfl) ?_
   clear h; intro y2 h
   let a8 : St := ⟨[(5, (.osl 5 5 1 (y2.map cU8))), (23, (.d (.sl 1 (y2.map cU8)))), (22, (.osl 22 5 1 (([p1] : List Int).map cU8))), (21, (.d (.i .u8 p1))), (20, (.d (.sl 1 (x5.map cU8)))), (19, (vB (decide (y1 = p1)))), (18, (.d (.i .u8 p1))), (17, (.d (.i .u8 y1))), (16, (vI x6)), (15, (vS p0)), (12, (vB (decide (x6 < (ln p0))))), (11, (vI (ln p0))), (10, (vS p0)), (9, (vI x6)), (0, (vS p0)), (1, (.d (.i .u8 p1))), (5, (.d (.sl 1 (x5.map cU8)))), (6, (vI x6))], []⟩
   exact st 1 a8 (ni (next_step (s' := stsL2Quote_J1 p0 p1 x6 y2) (wr [(5, .old 5)] (es (es (eo 5 (es er_nil)))) br_nil) (OK_sL2Quote_J1 x6 y2 _ h)))
   exact ki (next_step (s' := stsL2Quote_J1 p0 p1 x6 x5) (wr [(5, .old 5)] (es (es (eo 5 (es er_nil)))) br_nil) (OK_sL2Quote_J1 x6 x5 _ h))
   refine ei (te (te (bh (xi (so ?_)))))
   let a9 : St := a4.p [(31, (.d (.i .u8 p1))), (30, (.osl 5 5 1 (x5.map cU8)))]
   refine st 2 a9 (bsl_step (l := ([p1] : List Int)) (f := cU8) (g := cU8) (by kernel_rfl) (fun _ => rfl) (by kernel_rfl) ?_)
   refine app_step (t := 5) (l := x5) (m := ([p1] : List Int)) (f := cU8) (S' := fun y => ⟨[(33, (.osl 33 5 1 (y.map cU8))), (32, (.osl 32 5 1 (([p1] : List Int).map cU8))), (31, (.d (.i .u8 p1))), (30, (.d (.sl 1 (x5.map cU8)))), (12, (vB (decide (x6 < (ln p0))))), (11, (vI (ln p0))), (10, (vS p0)), (9, (vI x6)), (0, (vS p0)), (1, (.d (.i .u8 p1))), (5, (.d (.sl 1 (x5.map cU8)))), (6, (vI x6))], []⟩) h (by kernel_rfl) (by kernel_rfl) (by kernel_rfl) (by kernel_rfl) (fun y => by kernel_rfl) ?_
   clear h; intro y4 h
   refine vs (fun (y : (List UInt8)) => (vS y)) h (fun y hy => vop_cbs (l := y4) hy (by kernel_rfl) (by kernel_rfl)) fun y5 h => ?_
   let a10 : St := ⟨[(4, (vS y5)), (34, (vS y5)), (33, (.osl 33 5 1 (y4.map cU8))), (32, (.osl 32 5 1 (([p1] : List Int).map cU8))), (31, (.d (.i .u8 p1))), (30, (.d (.sl 1 (x5.map cU8)))), (12, (vB (decide (x6 < (ln p0))))), (11, (vI (ln p0))), (10, (vS p0)), (9, (vI x6)), (0, (vS p0)), (1, (.d (.i .u8 p1))), (5, (.d (.sl 1 (x5.map cU8)))), (6, (vI x6))], []⟩
   refine st 1 a10 (nx (ri ?_))
   injection h with h; subst h
   exact r1 (v := (vS y5))
theorem OK_sL2Quote_J1 (p0 : (List UInt8)) (p1 : Int) (x6 : Int) (x5_3 : (List Int)) (r : (List UInt8)) (h : sL2Quote_J1 p0 p1 x6 x5_3 = some r) : avc Tryz.prog acsL2Quote_J1 (qsL2Quote_4 r) (stsL2Quote_J1 p0 p1 x6 x5_3) := (OKs_sL2Quote_J1 p0 p1).1 x6 x5_3 r h
theorem OK_sL2Quote_L0 (p0 : (List UInt8)) (p1 : Int) (x5 : (List Int)) (x6 : Int) (r : (List UInt8)) (h : sL2Quote_L0 p0 p1 x5 x6 = some r) : avc Tryz.prog acsL2Quote_L0 (qsL2Quote_1 r) (stsL2Quote_L0 p0 p1 x5 x6) := (OKs_sL2Quote_J1 p0 p1).2 x5 x6 r h
theorem OK_sL2Quote (p0 : (List UInt8)) (p1 : Int) : FOk Tryz.prog 133 [(vS p0), (.d (.i .u8 p1))] (fun y => (vS y)) (sL2Quote p0 p1) := by
 intro r h
 rw [sL2Quote] at h
 refine aof trsL2Quote ?_
 show avc Tryz.prog acsL2Quote (qsL2Quote _) ⟨[(0, (vS p0)), (1, (.d (.i .u8 p1)))], []⟩
 delta acsL2Quote
 refine so ?_
 let a0 : St := ⟨[(4, (vS [])), (0, (vS p0)), (1, (.d (.i .u8 p1)))], []⟩
 refine st 1 a0 (nx (so ?_))
 let a1 : St := a0.p [(7, (.d (.i .u8 p1)))]
 refine st 1 a1 (bsl_step (l := ([p1] : List Int)) (f := cU8) (g := cU8) (by kernel_rfl) (fun _ => rfl) (by kernel_rfl) ?_)
 let a2 : St := a1.p [(5, (.osl 5 5 1 (([p1] : List Int).map cU8))), (8, (.d (.sl 1 (([p1] : List Int).map cU8))))]
 refine st 1 a2 (nx (si (so ?_)))
 let a3 : St := a2.p [(6, (vI 0))]
 exact st 1 a3 (nx (bi (loop_go (s' := stsL2Quote_L0 p0 p1 ([p1] : List Int) 0) (wr [(5, .old 5)] (es (es (eo 5 (es er_nil)))) br_nil) (OK_sL2Quote_L0 p0 p1 ([p1] : List Int) 0 _ h))))
theorem OK_sL1In (p0 : Int) (p1 : Int) (p2 : Int) : FOk Tryz.prog 76 [(vI p0), (vI p1), (vI p2)] (fun y => (vB y)) (sL1In p0 p1 p2) := by
 intro r h
 rw [sL1In] at h
 refine aof trsL1In ?_
 show avc Tryz.prog acsL1In (qsL1In _) ⟨[(0, (vI p0)), (1, (vI p1)), (2, (vI p2))], []⟩
 delta acsL1In
 refine so ?_
 let a0 : St := ⟨[(6, (vB false)), (0, (vI p0)), (1, (vI p1)), (2, (vI p2))], []⟩
 refine st 1 a0 (nx (so ?_))
 let a1 : St := a0.p [(10, (vB (decide (p1 ≤ p0)))), (9, (vB (decide (p1 ≤ p0)))), (8, (vI p1)), (7, (vI p0))]
 refine st 4 a1 (gp true (decide (p1 ≤ p0)) (vI p0) (fun hc => vl) (gp true (decide (p1 ≤ p0)) (vI p2) (fun hc => vl) (gp true (decide (p1 ≤ p0)) (vB (decide (p0 ≤ p2))) (fun hc => vop_val1 (Eq.trans (b := ([(true && ((decide (p1 ≤ p0)) == true)), (true && ((decide (p1 ≤ p0)) == true))] : List Bool).all id) (by kernel_rfl) (all_c hc (all_c hc rfl))) (by kernel_rfl)) ?_)))
 refine vs (fun (y : Bool) => (vB y)) h (fun y hy => vop_pickV hy (p := (true && ((decide (p1 ≤ p0)) == true))) (q := true) (by kernel_rfl) (by kernel_rfl) (by kernel_rfl) (by kernel_rfl) (fun hb => gc_t rfl hb) (fun _ => rfl)) fun y1 h => ?_
 let a2 : St := a1.p [(6, (vB y1)), (14, (vB y1)), (13, (.ite (true && ((decide (p1 ≤ p0)) == true)) (vB (decide (p0 ≤ p2))))), (12, (.ite (true && ((decide (p1 ≤ p0)) == true)) (vI p2))), (11, (.ite (true && ((decide (p1 ≤ p0)) == true)) (vI p0)))]
 refine st 1 a2 (nx (ri ?_))
 injection h with h; subst h
 exact r1 (v := (vB y1))
theorem OK_sNameOk (p0 : (List UInt8)) : FOk Tryz.prog 74 [(vS p0)] (fun y => (vB y)) (sNameOk p0) := by
 intro r h
 rw [sNameOk] at h
 refine aof trsNameOk ?_
 show avc Tryz.prog acsNameOk (qsNameOk _) ⟨[(0, (vS p0))], []⟩
 delta acsNameOk
 refine so ?_
 let a0 : St := ⟨[(2, (vB false)), (0, (vS p0))], []⟩
 refine st 1 a0 (nx (so ?_))
 let a1 : St := a0.p [(4, (vI (ln p0))), (3, (vS p0))]
 refine st 2 a1 (cs h (OK_sL1In (ln p0) 1 20) fun y1 h => ?_)
 let a2 : St := a1.p [(2, (vB y1)), (5, (vB y1))]
 refine st 1 a2 (nx (ri ?_))
 injection h with h; subst h
 exact r1 (v := (vB y1))
theorem OK_sFold_J2 (x3 : (List Int)) (r : (List UInt8)) (h : sFold_J2 x3 = some r) : avc Tryz.prog acsFold_J2 (qsFold r) (stsFold_J2 x3) := by
 rw [sFold_J2] at h
 delta acsFold_J2
 refine so ?_
 let a11 : St := (stsFold_J2 x3).p [(33, (.d (.sl 1 (x3.map cU8))))]
 refine st 1 a11 (vs (fun (y : (List UInt8)) => (vS y)) h (fun y hy => vop_cbs (l := x3) hy (by kernel_rfl) (by kernel_rfl)) fun y3 h => ?_)
 let a12 : St := a11.p [(2, (vS y3)), (34, (vS y3))]
 refine st 1 a12 (nx (ri ?_))
 injection h with h; subst h
 exact r1 (v := (vS y3))
theorem OKs_sFold_J1 : (∀ (x4 : Int) (b60052000_0 : (List Int)) (r : (List UInt8)), sFold_J1 x4 b60052000_0 = some r → avc Tryz.prog acsFold_J1 (qsFold_2 r) (stsFold_J1 x4 b60052000_0)) ∧ (∀ (x4 : Int) (b60013000_0 : (List Int)) (r : (List UInt8)), sFold_L0 x4 b60013000_0 = some r → avc Tryz.prog acsFold_L0 (qsFold_1 r) (stsFold_L0 x4 b60013000_0)) := by
 refine sFold_J1.mutual_partial_correctness (fun x4 b60052000_0 r => avc Tryz.prog acsFold_J1 (qsFold_2 r) (stsFold_J1 x4 b60052000_0)) (fun x4 b60013000_0 r => avc Tryz.prog acsFold_L0 (qsFold_1 r) (stsFold_L0 x4 b60013000_0)) ?_ ?_
 · intro F_sFold_L0 OK_sFold_L0 x4 b60052000_0 r h
   delta acsFold_J1
   refine oi ?_
   let a10 : St := (stsFold_J1 x4 b60052000_0).p [(4, (vI (IntKind.wrap .i64 (x4 + 1)))), (12, (vI (IntKind.wrap .i64 (x4 + 1)))), (11, (vI x4))]
   exact st 3 a10 (ni (loop_back (s' := stsFold_L0 (IntKind.wrap .i64 (x4 + 1)) b60052000_0) (tw [.rn [(60052000, 60013000)]] (wr [] (es (es er_nil)) (bs_ br_nil))) (OK_sFold_L0 (IntKind.wrap .i64 (x4 + 1)) b60052000_0 _ h)))
 · intro F_sFold_J1 OK_sFold_J1 x4 b60013000_0 r h
   delta acsFold_L0
   refine loop_unroll (si (so ?_))
   let a4 : St := (stsFold_L0 x4 b60013000_0).p [(8, (.tre 60013000)), (7, (vI x4))]
   refine st 2 a4 (ps (vI (ln b60013000_0)) (vop_lenT (n := 60013000) (l := b60013000_0.map cU8) (L := b60013000_0.length) (by kernel_rfl) (by kernel_rfl) (List.length_map ..)) ?_)
   let a5 : St := a4.p [(10, (vB (decide (x4 < (ln b60013000_0))))), (9, (vI (ln b60013000_0)))]
   refine st 1 a5 (nx ?_)
   refine cd h (fun h => ?_) fun h => ?_
   refine ki (xi (si (bi (so ?_))))
   let a6 : St := a5.p [(14, (vI x4)), (13, (.tre 60013000))]
   refine st 2 a6 (iat_step (n := 60013000) (k := .i64) (i := x4) (l := b60013000_0) (f := cU8) (g := cU8) [] (S' := fun y => ⟨(15, (.trp 60013000 1 (x4).toNat 0)) :: a6.env, [(60013000, [(.tro 1 (x4).toNat (b60013000_0.map cU8)), (.d (.i .u8 y))])]⟩) h (by kernel_rfl) (by kernel_rfl) (by kernel_rfl) (fun _ => rfl) (by kernel_rfl) (fun y => by kernel_rfl) ?_)
   clear h; intro y1 hiy1 h
   refine ps (.d (.i .u8 y1)) (vop_ldT (n := 60013000) (sz := 1) (i := (x4).toNat) (off := 0) (l := b60013000_0.map cU8) (c := [(.d (.i .u8 y1))]) (by kernel_rfl) (by kernel_rfl) (by kernel_rfl)) ?_
   let a7 : St := ⟨(18, (vB (decide (97 ≤ y1)))) :: (17, (vB (decide (97 ≤ y1)))) :: (16, (.d (.i .u8 y1))) :: (15, (.trp 60013000 1 (x4).toNat 0)) :: a6.env, [(60013000, [(.tro 1 (x4).toNat (b60013000_0.map cU8)), (.d (.i .u8 y1))])]⟩
   refine st 2 a7 (gp true (decide (97 ≤ y1)) (.tre 60013000) (fun hc => vl) (gp true (decide (97 ≤ y1)) (vI x4) (fun hc => vl) ?_))
   refine gp true (decide (97 ≤ y1)) (.trp 60013000 1 (x4).toNat 0) (fun hc => vop_iaO (n := 60013000) (k := .i64) (i := x4) (l := b60013000_0.map cU8) (c := [(.d (.i .u8 y1))]) (idx_get hiy1).1 (by kernel_rfl) (Eq.trans (b := ([(true && ((decide (97 ≤ y1)) == true)), (true && ((decide (97 ≤ y1)) == true))] : List Bool).all id) (by kernel_rfl) (all_c hc (all_c hc rfl))) (by kernel_rfl) (by kernel_rfl)) ?_
   refine gp true (decide (97 ≤ y1)) (.d (.i .u8 y1)) (fun hc => vop_ldTg (n := 60013000) (sz := 1) (i := (x4).toNat) (off := 0) (l := b60013000_0.map cU8) (c := [(.d (.i .u8 y1))]) (Eq.trans (b := ([(true && ((decide (97 ≤ y1)) == true))] : List Bool).all id) (by kernel_rfl) (all_c hc rfl)) (by kernel_rfl) (by kernel_rfl) (by kernel_rfl)) ?_
   refine gp true (decide (97 ≤ y1)) (vB (decide (y1 ≤ 122))) (fun hc => vg hc) (vs (fun (y : Bool) => (vB y)) h (fun y hy => vop_pickV hy (p := (true && ((decide (97 ≤ y1)) == true))) (q := true) (by kernel_rfl) (by kernel_rfl) (by kernel_rfl) (by kernel_rfl) (fun hb => gc_t rfl hb) (fun _ => rfl)) fun y2 h => (nx ?_))
   refine cd h (fun h => ?_) fun h => ?_
   refine oi ?_
   let a8 : St := a7.p [(28, (vI x4)), (27, (.tre 60013000)), (26, (vI x4)), (25, (.tre 60013000)), (24, (vB y2)), (23, (.ite (true && ((decide (97 ≤ y1)) == true)) (vB (decide (y1 ≤ 122))))), (22, (.ite (true && ((decide (97 ≤ y1)) == true)) (.d (.i .u8 y1)))), (21, (.ite (true && ((decide (97 ≤ y1)) == true)) (.trp 60013000 1 (x4).toNat 0))), (20, (.ite (true && ((decide (97 ≤ y1)) == true)) (vI x4))), (19, (.ite (true && ((decide (97 ≤ y1)) == true)) (.tre 60013000)))]
   refine st 4 a8 (iao_step (n := 60013000) (k := .i64) (i := x4) (l := b60013000_0.map cU8) (c := [(.d (.i .u8 y1))]) (by kernel_rfl) (by kernel_rfl) (idx_get hiy1).1 (by kernel_rfl) (ps (.d (.i .u8 y1)) (vop_ldT (n := 60013000) (sz := 1) (i := (x4).toNat) (off := 0) (l := b60013000_0.map cU8) (c := [(.d (.i .u8 y1))]) (by kernel_rfl) (by kernel_rfl) (by kernel_rfl)) ?_))
   let a9 : St := a8.p [(31, (.d (.i .u8 (IntKind.wrap .u8 (y1 - 32))))), (30, (.d (.i .u8 y1))), (29, (.trp 60013000 1 (x4).toNat 0))]
   refine st 1 a9 (iao_step (n := 60013000) (k := .i64) (i := x4) (l := b60013000_0.map cU8) (c := [(.d (.i .u8 y1))]) (by kernel_rfl) (by kernel_rfl) (idx_get hiy1).1 (by kernel_rfl) ?_)
   refine stt_step (n := 60013000) (sz := 1) (i := (x4).toNat) (off := 0) (l := b60013000_0.map cU8) (c := [(.d (.i .u8 y1))]) (s' := ⟨(32, (.trp 60013000 1 (x4).toNat 0)) :: a9.env, [(60013000, [(.tro 1 (x4).toNat (b60013000_0.map cU8)), (.d (.i .u8 (IntKind.wrap .u8 (y1 - 32))))])]⟩) (by kernel_rfl) (by kernel_rfl) (by kernel_rfl) (by kernel_rfl) (ni (bn ?_))
   exact next_step (s' := stsFold_J1 x4 (b60013000_0.set (x4).toNat (IntKind.wrap .u8 (y1 - 32)))) (tw [.clo 60013000, .rn [(60013000, 60052000)]] (wr [] (es (es er_nil)) (bt_ (R := (b60013000_0.set (x4).toNat (IntKind.wrap .u8 (y1 - 32))).map cU8) (set_map (l := b60013000_0) (k := (x4).toNat) (x := (IntKind.wrap .u8 (y1 - 32))) (fun _ => rfl)) br_nil))) (OK_sFold_J1 x4 (b60013000_0.set (x4).toNat (IntKind.wrap .u8 (y1 - 32))) _ h)
   exact ki (bn (next_step (s' := stsFold_J1 x4 (b60013000_0.set (x4).toNat y1)) (tw [.clo 60013000, .rn [(60013000, 60052000)]] (wr [] (es (es er_nil)) (bt_ (R := (b60013000_0.set (x4).toNat y1).map cU8) (set_map (l := b60013000_0) (k := (x4).toNat) (x := y1) (fun _ => rfl)) br_nil))) (OK_sFold_J1 x4 (b60013000_0.set (x4).toNat y1) _ h)))
   exact ei (te (te (bh (next_step (s' := stsFold_J2 b60013000_0) (tw [.frz [60013000]] (wr [] (es er_nil) br_nil)) (OK_sFold_J2 b60013000_0 _ h)))))
theorem OK_sFold_J1 (x4 : Int) (b60052000_0 : (List Int)) (r : (List UInt8)) (h : sFold_J1 x4 b60052000_0 = some r) : avc Tryz.prog acsFold_J1 (qsFold_2 r) (stsFold_J1 x4 b60052000_0) := (OKs_sFold_J1).1 x4 b60052000_0 r h
theorem OK_sFold_L0 (x4 : Int) (b60013000_0 : (List Int)) (r : (List UInt8)) (h : sFold_L0 x4 b60013000_0 = some r) : avc Tryz.prog acsFold_L0 (qsFold_1 r) (stsFold_L0 x4 b60013000_0) := (OKs_sFold_J1).2 x4 b60013000_0 r h
theorem OK_sFold (p0 : (List UInt8)) : FOk Tryz.prog 92 [(vS p0)] (fun y => (vS y)) (sFold p0) := by
 intro r h
 rw [sFold] at h
 refine aof trsFold ?_
 show avc Tryz.prog acsFold (qsFold _) ⟨[(0, (vS p0))], []⟩
 delta acsFold
 refine so ?_
 let a0 : St := ⟨[(2, (vS [])), (0, (vS p0))], []⟩
 refine st 1 a0 (nx (so ?_))
 let a1 : St := a0.p [(5, (vS p0))]
 refine st 1 a1 (csb_step (b := p0) (s' := ⟨(6, (.tre 6)) :: a1.env, [(6, [(.trc 1 ((toBytes p0).map cU8))])]⟩) (by kernel_rfl) (by kernel_rfl) (by kernel_rfl) ?_)
 let a2 : St := ⟨(3, (.tre 6)) :: (6, (.tre 6)) :: a1.env, [(6, [(.trc 1 ((toBytes p0).map cU8))])]⟩
 refine st 1 a2 (nx (si (so ?_)))
 let a3 : St := a2.p [(4, (vI 0))]
 exact st 1 a3 (nx (bi (loop_go (s' := stsFold_L0 0 (toBytes p0)) (tw [.rn [(6, 60013000)]] (wr [] (es (es er_nil)) (bs_ br_nil))) (OK_sFold_L0 0 (toBytes p0) _ h))))
theorem OKs_sKeyOf_L0 (y1 : (List UInt8)) (y2 : (List (List UInt8))) : (∀ (x5 : Int) (r : Int), sKeyOf_L0 y1 y2 x5 = some r → avc Tryz.prog acsKeyOf_L0 (qsKeyOf_1 r) (stsKeyOf_L0 y1 y2 x5)) := by
 refine sKeyOf_L0.partial_correctness y1 y2 (fun x5 r => avc Tryz.prog acsKeyOf_L0 (qsKeyOf_1 r) (stsKeyOf_L0 y1 y2 x5)) ?_
 · intro F_sKeyOf_L0 OK_sKeyOf_L0 x5 r h
   delta acsKeyOf_L0
   refine loop_unroll (si (so ?_))
   let a7 : St := (stsKeyOf_L0 y1 y2 x5).p [(13, (.osl 4 9 1 (y2.map cStr))), (12, (vI x5))]
   refine st 2 a7 (ps (vI (ln y2)) (vln (sz := 1) (l := y2) (f := cStr)) ?_)
   let a8 : St := a7.p [(15, (vB (decide (x5 < (ln y2))))), (14, (vI (ln y2)))]
   refine st 1 a8 (nx ?_)
   refine cd h (fun h => ?_) fun h => ?_
   refine ki (xi (si (bi (so ?_))))
   let a9 : St := a8.p [(19, (vI x5)), (18, (.osl 4 9 1 (y2.map cStr)))]
   refine st 2 a9 (vs (fun (y : (List UInt8)) => (.rp [(.s (bs y))])) h (fun y hy => via (l := y2) (f := cStr) (g := cStr) (k := .i64) hy (fun _ => rfl)) fun y3 h => ?_)
   let a10 : St := a9.p [(23, (vB (decide (y3 = y1)))), (22, (vS y1)), (21, (vS y3)), (20, (.rp [(.s (bs y3))]))]
   refine st 3 a10 (nx ?_)
   refine cd h (fun h => ?_) fun h => ?_
   refine so ?_
   let a11 : St := a10.p [(2, (vI x5)), (24, (vI x5))]
   refine st 2 a11 (nx (ri (br (tr (tr (br (tr ?_)))))))
   injection h with h; subst h
   exact r1 (v := (vI x5))
   refine ki (bn (xi (oi ?_)))
   let a12 : St := a10.p [(5, (vI (IntKind.wrap .i64 (x5 + 1)))), (17, (vI (IntKind.wrap .i64 (x5 + 1)))), (16, (vI x5))]
   exact st 3 a12 (ni (loop_back (s' := stsKeyOf_L0 y1 y2 (IntKind.wrap .i64 (x5 + 1))) (wr [(4, .old 4)] (es (eo 4 (es er_nil))) br_nil) (OK_sKeyOf_L0 (IntKind.wrap .i64 (x5 + 1)) _ h)))
   refine ei (te (te (bh (xi (so ?_)))))
   let a13 : St := a8.p [(2, (vI 0))]
   refine st 1 a13 (nx (ri ?_))
   injection h with h; subst h
   exact r1 (v := (vI 0))
theorem OK_sKeyOf_L0 (y1 : (List UInt8)) (y2 : (List (List UInt8))) (x5 : Int) (r : Int) (h : sKeyOf_L0 y1 y2 x5 = some r) : avc Tryz.prog acsKeyOf_L0 (qsKeyOf_1 r) (stsKeyOf_L0 y1 y2 x5) := (OKs_sKeyOf_L0 y1 y2) x5 r h
theorem OK_sKeyOf (p0 : (List UInt8)) : FOk Tryz.prog 93 [(vS p0)] (fun y => (vI y)) (sKeyOf p0) := by
 intro r h
 rw [sKeyOf] at h
 refine aof trsKeyOf ?_
 show avc Tryz.prog acsKeyOf (qsKeyOf _) ⟨[(0, (vS p0))], []⟩
 delta acsKeyOf
 refine so ?_
 let a0 : St := ⟨[(2, (vI 0)), (0, (vS p0))], []⟩
 refine st 1 a0 (nx (si (so ?_)))
 let a1 : St := a0.p [(8, (vB (decide (8 < (ln p0))))), (7, (vI (ln p0))), (6, (vS p0))]
 refine st 3 a1 (nx ?_)
 refine cd h (fun h => ?_) fun h => ?_
 refine so ?_
 let a2 : St := a1.p [(2, (vI 0))]
 refine st 1 a2 (nx (ri (tr ?_)))
 injection h with h; subst h
 exact r1 (v := (vI 0))
 refine ki (xi (so ?_))
 let a3 : St := a1.p [(9, (vS p0))]
 refine st 1 a3 (cs h (OK_sFold p0) fun y1 h => ?_)
 let a4 : St := a3.p [(3, (vS y1)), (10, (vS y1))]
 refine st 1 a4 (nx (so (callg_step ⟨[], [], [], [], [], [(2000000, 11)], [], [11], []⟩ (m := sL2Words) (S' := fun (y : (List (List UInt8))) => ⟨(11, (.osl 11 9 1 (y.map cStr))) :: a4.env, a4.bx⟩) h (OK_sL2Words) (by kernel_rfl) (by kernel_rfl) (by kernel_rfl) (by kernel_rfl) (fun y => by kernel_rfl) (fun y => by kernel_rfl) ?_)))
 clear h; intro y2 h
 let a5 : St := a4.p [(4, (.osl 4 9 1 (y2.map cStr))), (11, (.d (.sl 1 (y2.map cStr))))]
 refine st 1 a5 (nx (si (so ?_)))
 let a6 : St := a5.p [(5, (vI 1))]
 exact st 1 a6 (nx (bi (loop_go (s' := stsKeyOf_L0 y1 y2 1) (wr [(4, .old 4)] (es (eo 4 (es er_nil))) br_nil) (OK_sKeyOf_L0 y1 y2 1 _ h))))
theorem OK_sL2Figure (p0 : Int) : FOk Tryz.prog 118 [(.d (.i .u8 p0))] (fun y => (vB y)) (sL2Figure p0) := by
 intro r h
 rw [sL2Figure] at h
 refine aof trsL2Figure ?_
 show avc Tryz.prog acsL2Figure (qsL2Figure _) ⟨[(0, (.d (.i .u8 p0)))], []⟩
 delta acsL2Figure
 refine so ?_
 let a0 : St := ⟨[(2, (vB false)), (0, (.d (.i .u8 p0)))], []⟩
 refine st 1 a0 (nx (so ?_))
 let a1 : St := a0.p [(5, (vB (decide (48 ≤ p0)))), (4, (vB (decide (48 ≤ p0)))), (3, (.d (.i .u8 p0)))]
 refine st 3 a1 (gp true (decide (48 ≤ p0)) (.d (.i .u8 p0)) (fun hc => vl) (gp true (decide (48 ≤ p0)) (vB (decide (p0 ≤ 57))) (fun hc => vg hc) (vs (fun (y : Bool) => (vB y)) h (fun y hy => vop_pickV hy (p := (true && ((decide (48 ≤ p0)) == true))) (q := true) (by kernel_rfl) (by kernel_rfl) (by kernel_rfl) (by kernel_rfl) (fun hb => gc_t rfl hb) (fun _ => rfl)) fun y1 h => ?_)))
 let a2 : St := a1.p [(2, (vB y1)), (8, (vB y1)), (7, (.ite (true && ((decide (48 ≤ p0)) == true)) (vB (decide (p0 ≤ 57))))), (6, (.ite (true && ((decide (48 ≤ p0)) == true)) (.d (.i .u8 p0))))]
 refine st 1 a2 (nx (ri ?_))
 injection h with h; subst h
 exact r1 (v := (vB y1))
theorem OK_sL2Letter (p0 : Int) : FOk Tryz.prog 116 [(.d (.i .u8 p0))] (fun y => (vB y)) (sL2Letter p0) := by
 intro r h
 rw [sL2Letter] at h
 refine aof trsL2Letter ?_
 show avc Tryz.prog acsL2Letter (qsL2Letter _) ⟨[(0, (.d (.i .u8 p0)))], []⟩
 delta acsL2Letter
 refine so ?_
 let a0 : St := ⟨[(2, (vB false)), (0, (.d (.i .u8 p0)))], []⟩
 refine st 1 a0 (nx (so ?_))
 let a1 : St := a0.p [(5, (vB (decide (97 ≤ p0)))), (4, (vB (decide (97 ≤ p0)))), (3, (.d (.i .u8 p0)))]
 refine st 3 a1 (gp true (decide (97 ≤ p0)) (.d (.i .u8 p0)) (fun hc => vl) (gp true (decide (97 ≤ p0)) (vB (decide (p0 ≤ 122))) (fun hc => vg hc) (vs (fun (y : Bool) => (vB y)) h (fun y hy => vop_pickV hy (p := (true && ((decide (97 ≤ p0)) == true))) (q := true) (by kernel_rfl) (by kernel_rfl) (by kernel_rfl) (by kernel_rfl) (fun hb => gc_t rfl hb) (fun _ => rfl)) fun y1 h => ?_)))
 let a2 : St := a1.p [(9, (vB y1)), (8, (vB y1)), (7, (.ite (true && ((decide (97 ≤ p0)) == true)) (vB (decide (p0 ≤ 122))))), (6, (.ite (true && ((decide (97 ≤ p0)) == true)) (.d (.i .u8 p0))))]
 refine st 1 a2 (gp true y1 (.d (.i .u8 p0)) (fun hc => vl) (gp true y1 (vB (decide (65 ≤ p0))) (fun hc => vg hc) (gp true y1 (vB (decide (65 ≤ p0))) (fun hc => vg hc) (gp (true && (y1 == false)) (decide (65 ≤ p0)) (.d (.i .u8 p0)) (fun hc => vl) (gp (true && (y1 == false)) (decide (65 ≤ p0)) (vB (decide (p0 ≤ 90))) (fun hc => vg hc) ?_)))))
 refine gv true y1 (fun (y : Bool) => (vB y)) h (fun y hy hc => vop_pickV hy (p := ((true && (y1 == false)) && ((decide (65 ≤ p0)) == true))) (q := true) (Eq.trans (b := ([(true && (y1 == false))] : List Bool).all id) (by kernel_rfl) (all_c hc rfl)) (by kernel_rfl) (by kernel_rfl) (by kernel_rfl) (fun hb => gc_t hc hb) (fun _ => rfl)) fun y2 h => ?_
 refine vs (fun (y : Bool) => (vB y)) h (fun y hy => vop_pickV hy (p := true) (q := (true && (y1 == false))) (by kernel_rfl) (by kernel_rfl) (by kernel_rfl) (by kernel_rfl) (fun _ => rfl) (fun hb => gc_f rfl hb)) fun y3 h => ?_
 let a3 : St := a2.p [(17, (vB y3)), (16, (vB y3)), (15, (.ite (gF y1) (vB y2))), (14, (.ite ((gF y1) && ((decide (65 ≤ p0)) == true)) (vB (decide (p0 ≤ 90))))), (13, (.ite ((gF y1) && ((decide (65 ≤ p0)) == true)) (.d (.i .u8 p0)))), (12, (.ite (gF y1) (vB (decide (65 ≤ p0))))), (11, (.ite (gF y1) (vB (decide (65 ≤ p0))))), (10, (.ite (gF y1) (.d (.i .u8 p0))))]
 refine st 1 a3 (gp true y3 (.d (.i .u8 p0)) (fun hc => vl) (gp true y3 (vB (decide (p0 = 95))) (fun hc => vg hc) (vs (fun (y : Bool) => (vB y)) h (fun y hy => vop_pickV hy (p := true) (q := (true && (y3 == false))) (by kernel_rfl) (by kernel_rfl) (by kernel_rfl) (by kernel_rfl) (fun _ => rfl) (fun hb => gc_f rfl hb)) fun y4 h => ?_)))
 let a4 : St := a3.p [(2, (vB y4)), (20, (vB y4)), (19, (.ite (gF y3) (vB (decide (p0 = 95))))), (18, (.ite (gF y3) (.d (.i .u8 p0))))]
 refine st 1 a4 (nx (ri ?_))
 injection h with h; subst h
 exact r1 (v := (vB y4))
theorem OKs_sPlainName_L0 (p0 : (List UInt8)) : (∀ (x3 : Int) (r : Bool), sPlainName_L0 p0 x3 = some r → avc Tryz.prog acsPlainName_L0 (qsPlainName_1 r) (stsPlainName_L0 p0 x3)) := by
 refine sPlainName_L0.partial_correctness p0 (fun x3 r => avc Tryz.prog acsPlainName_L0 (qsPlainName_1 r) (stsPlainName_L0 p0 x3)) ?_
 · intro F_sPlainName_L0 OK_sPlainName_L0 x3 r h
   delta acsPlainName_L0
   refine loop_unroll (si (so ?_))
   let a6 : St := (stsPlainName_L0 p0 x3).p [(20, (vB (decide (x3 < (ln p0))))), (19, (vI (ln p0))), (18, (vS p0)), (17, (vI x3))]
   refine st 4 a6 (nx ?_)
   refine cd h (fun h => ?_) fun h => ?_
   refine ki (xi (si (bi (so ?_))))
   let a7 : St := a6.p [(24, (vI x3)), (23, (vS p0))]
   refine st 2 a7 (vs (fun (y : Int) => (.d (.i .u8 y))) h (fun y hy => vop_ix (b := p0) (k := .i64) hy (by kernel_rfl) (by kernel_rfl) (by kernel_rfl)) fun y7 h => (cs h (OK_sL2Letter y7) fun y8 h => ?_))
   let a8 : St := a7.p [(28, (vB (!y8))), (27, (vB (!y8))), (26, (vB y8)), (25, (.d (.i .u8 y7)))]
   refine st 2 a8 (gp true (!y8) (vS p0) (fun hc => vl) (gp true (!y8) (vI x3) (fun hc => vl) (gv true (!y8) (fun (y : Int) => (.d (.i .u8 y))) h (fun y hy hc => vop_ix (b := p0) (k := .i64) hy (Eq.trans (b := ([(true && ((!y8) == true)), (true && ((!y8) == true))] : List Bool).all id) (by kernel_rfl) (all_c hc (all_c hc rfl))) (by kernel_rfl) (by kernel_rfl)) fun y9 h => ?_)))
   refine gcall_step (p := true) (b := (!y8)) (m := sL2Figure y9) (dflt := default) (args := [(.d (.i .u8 y9))]) (v' := (fun y => (vB y))) h (by kernel_rfl) (OK_sL2Figure y9) (fun hc => by kernel_rfl) (by kernel_rfl) (fun _ => rfl) (fun hc => (Eq.trans (b := ([(true && ((!y8) == true))] : List Bool).all id) (by kernel_rfl) (all_c hc rfl))) ?_
   clear h; intro y10 h
   refine gp true (!y8) (vB (!y10)) (fun hc => vg hc) (vs (fun (y : Bool) => (vB y)) h (fun y hy => vop_pickV hy (p := (true && ((!y8) == true))) (q := true) (by kernel_rfl) (by kernel_rfl) (by kernel_rfl) (by kernel_rfl) (fun hb => gc_t rfl hb) (fun _ => rfl)) fun y11 h => (nx ?_))
   refine cd h (fun h => ?_) fun h => ?_
   refine so ?_
   let a9 : St := a8.p [(2, (vB false)), (34, (vB y11)), (33, (.ite (true && ((!y8) == true)) (vB (!y10)))), (32, (.ite (true && ((!y8) == true)) (vB y10))), (31, (.ite (true && ((!y8) == true)) (.d (.i .u8 y9)))), (30, (.ite (true && ((!y8) == true)) (vI x3))), (29, (.ite (true && ((!y8) == true)) (vS p0)))]
   refine st 1 a9 (nx (ri (br (tr (tr (br (tr ?_)))))))
   injection h with h; subst h
   exact r1 (v := (vB false))
   refine ki (bn (xi (oi ?_)))
   let a10 : St := a8.p [(3, (vI (IntKind.wrap .i64 (x3 + 1)))), (22, (vI (IntKind.wrap .i64 (x3 + 1)))), (21, (vI x3)), (34, (vB y11)), (33, (.ite (true && ((!y8) == true)) (vB (!y10)))), (32, (.ite (true && ((!y8) == true)) (vB y10))), (31, (.ite (true && ((!y8) == true)) (.d (.i .u8 y9)))), (30, (.ite (true && ((!y8) == true)) (vI x3))), (29, (.ite (true && ((!y8) == true)) (vS p0)))]
   exact st 3 a10 (ni (loop_back (s' := stsPlainName_L0 p0 (IntKind.wrap .i64 (x3 + 1))) (wr [] (es (es er_nil)) br_nil) (OK_sPlainName_L0 (IntKind.wrap .i64 (x3 + 1)) _ h)))
   refine ei (te (te (bh (xi (so ?_)))))
   let a11 : St := a6.p [(2, (vB true))]
   refine st 1 a11 (nx (ri ?_))
   injection h with h; subst h
   exact r1 (v := (vB true))
theorem OK_sPlainName_L0 (p0 : (List UInt8)) (x3 : Int) (r : Bool) (h : sPlainName_L0 p0 x3 = some r) : avc Tryz.prog acsPlainName_L0 (qsPlainName_1 r) (stsPlainName_L0 p0 x3) := (OKs_sPlainName_L0 p0) x3 r h
theorem OK_sPlainName (p0 : (List UInt8)) : FOk Tryz.prog 132 [(vS p0)] (fun y => (vB y)) (sPlainName p0) := by
 intro r h
 rw [sPlainName] at h
 refine aof trsPlainName ?_
 show avc Tryz.prog acsPlainName (qsPlainName _) ⟨[(0, (vS p0))], []⟩
 delta acsPlainName
 refine so ?_
 let a0 : St := ⟨[(2, (vB false)), (0, (vS p0))], []⟩
 refine st 1 a0 (nx (si (so ?_)))
 let a1 : St := a0.p [(4, (vS p0))]
 refine st 1 a1 (cs h (OK_sNameOk p0) fun y1 h => ?_)
 let a2 : St := a1.p [(7, (vB (!y1))), (6, (vB (!y1))), (5, (vB y1))]
 refine st 2 a2 (gp true (!y1) (vS p0) (fun hc => vl) (gv true (!y1) (fun (y : Int) => (.d (.i .u8 y))) h (fun y hy hc => vop_ix (b := p0) (k := .i64) hy (Eq.trans (b := ([(true && ((!y1) == false))] : List Bool).all id) (by kernel_rfl) (all_c hc rfl)) (by kernel_rfl) (by kernel_rfl)) fun y2 h => ?_))
 refine gcall_step (p := true) (b := (!y1)) (m := sL2Figure y2) (dflt := default) (args := [(.d (.i .u8 y2))]) (v' := (fun y => (vB y))) h (by kernel_rfl) (OK_sL2Figure y2) (fun hc => by kernel_rfl) (by kernel_rfl) (fun _ => rfl) (fun hc => (Eq.trans (b := ([(true && ((!y1) == false))] : List Bool).all id) (by kernel_rfl) (all_c hc rfl))) ?_
 clear h; intro y3 h
 refine vs (fun (y : Bool) => (vB y)) h (fun y hy => vop_pickV hy (p := true) (q := (true && ((!y1) == false))) (by kernel_rfl) (by kernel_rfl) (by kernel_rfl) (by kernel_rfl) (fun _ => rfl) (fun hb => gc_f rfl hb)) fun y4 h => ?_
 let a3 : St := a2.p [(12, (vB y4)), (11, (vB y4)), (10, (.ite (true && ((!y1) == false)) (vB y3))), (9, (.ite (true && ((!y1) == false)) (.d (.i .u8 y2)))), (8, (.ite (true && ((!y1) == false)) (vS p0)))]
 refine st 1 a3 (gp true y4 (vS p0) (fun hc => vl) (gcall_step (p := true) (b := y4) (m := sKeyOf p0) (dflt := default) (args := [(vS p0)]) (v' := (fun y => (vI y))) h (by kernel_rfl) (OK_sKeyOf p0) (fun hc => by kernel_rfl) (by kernel_rfl) (fun _ => rfl) (fun hc => (Eq.trans (b := ([(true && (y4 == false))] : List Bool).all id) (by kernel_rfl) (all_c hc rfl))) ?_))
 clear h; intro y5 h
 refine gp true y4 (vB (decide (0 < y5))) (fun hc => vg hc) (vs (fun (y : Bool) => (vB y)) h (fun y hy => vop_pickV hy (p := true) (q := (true && (y4 == false))) (by kernel_rfl) (by kernel_rfl) (by kernel_rfl) (by kernel_rfl) (fun _ => rfl) (fun hb => gc_f rfl hb)) fun y6 h => (nx ?_))
 refine cd h (fun h => ?_) fun h => ?_
 refine so ?_
 let a4 : St := a3.p [(2, (vB false)), (16, (vB y6)), (15, (.ite (gF y4) (vB (decide (0 < y5))))), (14, (.ite (gF y4) (vI y5))), (13, (.ite (gF y4) (vS p0)))]
 refine st 1 a4 (nx (ri (tr ?_)))
 injection h with h; subst h
 exact r1 (v := (vB false))
 refine ki (xi (si (so ?_)))
 let a5 : St := a3.p [(3, (vI 0)), (16, (vB y6)), (15, (.ite (gF y4) (vB (decide (0 < y5))))), (14, (.ite (gF y4) (vI y5))), (13, (.ite (gF y4) (vS p0)))]
 exact st 1 a5 (nx (bi (loop_go (s' := stsPlainName_L0 p0 0) (wr [] (es (es er_nil)) br_nil) (OK_sPlainName_L0 p0 0 _ h))))
theorem OK_sNameText (p0 : (List UInt8)) : FOk Tryz.prog 98 [(vS p0)] (fun y => (vS y)) (sNameText p0) := by
 intro r h
 rw [sNameText] at h
 refine aof trsNameText ?_
 show avc Tryz.prog acsNameText (qsNameText _) ⟨[(0, (vS p0))], []⟩
 delta acsNameText
 refine so ?_
 let a0 : St := ⟨[(2, (vS [])), (0, (vS p0))], []⟩
 refine st 1 a0 (nx (si (so ?_)))
 let a1 : St := a0.p [(3, (vS p0))]
 refine st 1 a1 (cs h (OK_sNameOk p0) fun y1 h => ?_)
 let a2 : St := a1.p [(5, (vB (!y1))), (4, (vB y1))]
 refine st 1 a2 (nx ?_)
 refine cd h (fun h => ?_) fun h => ?_
 refine so ?_
 let a3 : St := a2.p [(2, (vS []))]
 refine st 1 a3 (nx (ri (tr ?_)))
 injection h with h; subst h
 exact r1 (v := (vS []))
 refine ki (xi (si (so ?_)))
 let a4 : St := a2.p [(6, (vS p0))]
 refine st 1 a4 (cs h (OK_sPlainName p0) fun y2 h => (nx ?_))
 refine cd h (fun h => ?_) fun h => ?_
 refine so ?_
 let a5 : St := a4.p [(2, (vS p0)), (8, (vS p0)), (7, (vB y2))]
 refine st 2 a5 (nx (ri (tr ?_)))
 injection h with h; subst h
 exact r1 (v := (vS p0))
 refine ki (xi (so ?_))
 let a6 : St := a4.p [(9, (vS p0)), (7, (vB y2))]
 refine st 1 a6 (cs h (OK_sL2Quote p0 34) fun y3 h => ?_)
 let a7 : St := a6.p [(2, (vS y3)), (10, (vS y3))]
 refine st 1 a7 (nx (ri ?_))
 injection h with h; subst h
 exact r1 (v := (vS y3))
theorem OK_sQuoteText (p0 : (List UInt8)) : FOk Tryz.prog 99 [(vS p0)] (fun y => (vS y)) (sQuoteText p0) := by
 intro r h
 rw [sQuoteText] at h
 refine aof trsQuoteText ?_
 show avc Tryz.prog acsQuoteText (qsQuoteText _) ⟨[(0, (vS p0))], []⟩
 delta acsQuoteText
 refine so ?_
 let a0 : St := ⟨[(2, (vS [])), (0, (vS p0))], []⟩
 refine st 1 a0 (nx (so ?_))
 let a1 : St := a0.p [(3, (vS p0))]
 refine st 1 a1 (cs h (OK_sL2Quote p0 39) fun y1 h => ?_)
 let a2 : St := a1.p [(2, (vS y1)), (4, (vS y1))]
 refine st 1 a2 (nx (ri ?_))
 injection h with h; subst h
 exact r1 (v := (vS y1))
theorem OKs_sNumber_L0 (p0 : (List UInt8)) : (∀ (x4 : Int) (x5 : Int) (r : Int × Bool), sNumber_L0 p0 x4 x5 = some r → avc Tryz.prog acsNumber_L0 (qsNumber_1 r) (stsNumber_L0 p0 x4 x5)) := by
 refine sNumber_L0.partial_correctness p0 (fun x4 x5 r => avc Tryz.prog acsNumber_L0 (qsNumber_1 r) (stsNumber_L0 p0 x4 x5)) ?_
 · intro F_sNumber_L0 OK_sNumber_L0 x4 x5 r h
   delta acsNumber_L0
   refine loop_unroll (si (so ?_))
   let a5 : St := (stsNumber_L0 p0 x4 x5).p [(18, (vB (decide (x5 < (ln p0))))), (17, (vI (ln p0))), (16, (vS p0)), (15, (vI x5))]
   refine st 4 a5 (nx ?_)
   refine cd h (fun h => ?_) fun h => ?_
   refine ki (xi (si (bi (si (so ?_)))))
   let a6 : St := a5.p [(22, (vI x5)), (21, (vS p0))]
   refine st 2 a6 (vs (fun (y : Int) => (.d (.i .u8 y))) h (fun y hy => vop_ix (b := p0) (k := .i64) hy (by kernel_rfl) (by kernel_rfl) (by kernel_rfl)) fun y2 h => ?_)
   let a7 : St := a6.p [(25, (vB (decide (y2 < 48)))), (24, (vB (decide (y2 < 48)))), (23, (.d (.i .u8 y2)))]
   refine st 2 a7 (gp true (decide (y2 < 48)) (vS p0) (fun hc => vl) (gp true (decide (y2 < 48)) (vI x5) (fun hc => vl) ?_))
   refine gv true (decide (y2 < 48)) (fun (y : Int) => (.d (.i .u8 y))) h (fun y hy hc => vop_ix (b := p0) (k := .i64) hy (Eq.trans (b := ([(true && ((decide (y2 < 48)) == false)), (true && ((decide (y2 < 48)) == false))] : List Bool).all id) (by kernel_rfl) (all_c hc (all_c hc rfl))) (by kernel_rfl) (by kernel_rfl)) fun y3 h => (gp true (decide (y2 < 48)) (vB (decide (57 < y3))) (fun hc => vg hc) ?_)
   refine vs (fun (y : Bool) => (vB y)) h (fun y hy => vop_pickV hy (p := true) (q := (true && ((decide (y2 < 48)) == false))) (by kernel_rfl) (by kernel_rfl) (by kernel_rfl) (by kernel_rfl) (fun _ => rfl) (fun hb => gc_f rfl hb)) fun y4 h => (nx ?_)
   refine cd h (fun h => ?_) fun h => ?_
   refine so ?_
   let a8 : St := a7.p [(3, (vB false)), (2, (vI 0)), (30, (vB y4)), (29, (.ite (true && ((decide (y2 < 48)) == false)) (vB (decide (57 < y3))))), (28, (.ite (true && ((decide (y2 < 48)) == false)) (.d (.i .u8 y3)))), (27, (.ite (true && ((decide (y2 < 48)) == false)) (vI x5))), (26, (.ite (true && ((decide (y2 < 48)) == false)) (vS p0)))]
   refine st 2 a8 (nx (ri (tr (br (tr (tr (br (tr ?_))))))))
   injection h with h; subst h
   exact retn_step (vs := [(vI 0), (vB false)]) (by kernel_rfl) (by kernel_rfl)
   refine ki (xi (so ?_))
   let a9 : St := a7.p [(32, (vI x5)), (31, (vS p0)), (30, (vB y4)), (29, (.ite (true && ((decide (y2 < 48)) == false)) (vB (decide (57 < y3))))), (28, (.ite (true && ((decide (y2 < 48)) == false)) (.d (.i .u8 y3)))), (27, (.ite (true && ((decide (y2 < 48)) == false)) (vI x5))), (26, (.ite (true && ((decide (y2 < 48)) == false)) (vS p0)))]
   refine st 2 a9 (vs (fun (y : Int) => (.d (.i .u8 y))) h (fun y hy => vop_ix (b := p0) (k := .i64) hy (by kernel_rfl) (by kernel_rfl) (by kernel_rfl)) fun y5 h => ?_)
   let a10 : St := a9.p [(6, (vI (IntKind.wrap .i64 ((IntKind.wrap .i64 y5) - 48)))), (35, (vI (IntKind.wrap .i64 ((IntKind.wrap .i64 y5) - 48)))), (34, (vI (IntKind.wrap .i64 y5))), (33, (.d (.i .u8 y5)))]
   refine st 3 a10 (nx (si (so ?_)))
   let a11 : St := a10.p [(40, (vB (decide ((IntKind.wrap .i64 (Int.tdiv (IntKind.wrap .i64 (9223372036854775807 - (IntKind.wrap .i64 ((IntKind.wrap .i64 y5) - 48)))) 10)) < x4)))), (39, (vI (IntKind.wrap .i64 (Int.tdiv (IntKind.wrap .i64 (9223372036854775807 - (IntKind.wrap .i64 ((IntKind.wrap .i64 y5) - 48)))) 10)))), (38, (vI (IntKind.wrap .i64 (9223372036854775807 - (IntKind.wrap .i64 ((IntKind.wrap .i64 y5) - 48)))))), (37, (vI (IntKind.wrap .i64 ((IntKind.wrap .i64 y5) - 48)))), (36, (vI x4))]
   refine st 5 a11 (nx ?_)
   refine cd h (fun h => ?_) fun h => ?_
   refine so ?_
   let a12 : St := a11.p [(3, (vB false)), (2, (vI 0))]
   refine st 2 a12 (nx (ri (tr (br (tr (tr (br (tr ?_))))))))
   injection h with h; subst h
   exact retn_step (vs := [(vI 0), (vB false)]) (by kernel_rfl) (by kernel_rfl)
   refine ki (xi (oi ?_))
   let a13 : St := a11.p [(4, (vI (IntKind.wrap .i64 ((IntKind.wrap .i64 (10 * x4)) + (IntKind.wrap .i64 ((IntKind.wrap .i64 y5) - 48)))))), (44, (vI (IntKind.wrap .i64 ((IntKind.wrap .i64 (10 * x4)) + (IntKind.wrap .i64 ((IntKind.wrap .i64 y5) - 48)))))), (43, (vI (IntKind.wrap .i64 ((IntKind.wrap .i64 y5) - 48)))), (42, (vI (IntKind.wrap .i64 (10 * x4)))), (41, (vI x4))]
   refine st 5 a13 (ni (bn (xi (oi ?_))))
   let a14 : St := a13.p [(5, (vI (IntKind.wrap .i64 (x5 + 1)))), (20, (vI (IntKind.wrap .i64 (x5 + 1)))), (19, (vI x5))]
   exact st 3 a14 (ni (loop_back (s' := stsNumber_L0 p0 (IntKind.wrap .i64 ((IntKind.wrap .i64 (10 * x4)) + (IntKind.wrap .i64 ((IntKind.wrap .i64 y5) - 48)))) (IntKind.wrap .i64 (x5 + 1))) (wr [] (es (es (es er_nil))) br_nil) (OK_sNumber_L0 (IntKind.wrap .i64 ((IntKind.wrap .i64 (10 * x4)) + (IntKind.wrap .i64 ((IntKind.wrap .i64 y5) - 48)))) (IntKind.wrap .i64 (x5 + 1)) _ h)))
   refine ei (te (te (bh (xi (si (so ?_))))))
   let a15 : St := a5.p [(45, (vI x4))]
   refine st 1 a15 (cs h (OK_sDigits x4) fun y6 h => ?_)
   let a16 : St := a15.p [(48, (vB (!decide (y6 = p0)))), (47, (vS p0)), (46, (vS y6))]
   refine st 2 a16 (nx ?_)
   refine cd h (fun h => ?_) fun h => ?_
   refine so ?_
   let a17 : St := a16.p [(3, (vB false)), (2, (vI 0))]
   refine st 2 a17 (nx (ri (tr ?_)))
   injection h with h; subst h
   exact retn_step (vs := [(vI 0), (vB false)]) (by kernel_rfl) (by kernel_rfl)
   refine ki (xi (so ?_))
   let a18 : St := a16.p [(3, (vB true)), (2, (vI x4)), (49, (vI x4))]
   refine st 3 a18 (nx (ri ?_))
   injection h with h; subst h
   exact retn_step (vs := [(vI x4), (vB true)]) (by kernel_rfl) (by kernel_rfl)
theorem OK_sNumber_L0 (p0 : (List UInt8)) (x4 : Int) (x5 : Int) (r : Int × Bool) (h : sNumber_L0 p0 x4 x5 = some r) : avc Tryz.prog acsNumber_L0 (qsNumber_1 r) (stsNumber_L0 p0 x4 x5) := (OKs_sNumber_L0 p0) x4 x5 r h
theorem OK_sNumber (p0 : (List UInt8)) : FOk Tryz.prog 94 [(vS p0)] (fun y => (.tup [(vI y.1), (vB y.2)])) (sNumber p0) := by
 intro r h
 rw [sNumber] at h
 refine aof trsNumber ?_
 show avc Tryz.prog acsNumber (qsNumber _) ⟨[(0, (vS p0))], []⟩
 delta acsNumber
 refine so ?_
 let a0 : St := ⟨[(3, (vB false)), (2, (vI 0)), (0, (vS p0))], []⟩
 refine st 2 a0 (nx (si (so ?_)))
 let a1 : St := a0.p [(10, (vB (decide ((ln p0) < 1)))), (9, (vB (decide ((ln p0) < 1)))), (8, (vI (ln p0))), (7, (vS p0))]
 refine st 4 a1 (gp true (decide ((ln p0) < 1)) (vS p0) (fun hc => vl) (gp true (decide ((ln p0) < 1)) (vI (ln p0)) (fun hc => vg hc) (gp true (decide ((ln p0) < 1)) (vB (decide (19 < (ln p0)))) (fun hc => vg hc) ?_)))
 refine vs (fun (y : Bool) => (vB y)) h (fun y hy => vop_pickV hy (p := true) (q := (true && ((decide ((ln p0) < 1)) == false))) (by kernel_rfl) (by kernel_rfl) (by kernel_rfl) (by kernel_rfl) (fun _ => rfl) (fun hb => gc_f rfl hb)) fun y1 h => (nx ?_)
 refine cd h (fun h => ?_) fun h => ?_
 refine so ?_
 let a2 : St := a1.p [(3, (vB false)), (2, (vI 0)), (14, (vB y1)), (13, (.ite (true && ((decide ((ln p0) < 1)) == false)) (vB (decide (19 < (ln p0)))))), (12, (.ite (true && ((decide ((ln p0) < 1)) == false)) (vI (ln p0)))), (11, (.ite (true && ((decide ((ln p0) < 1)) == false)) (vS p0)))]
 refine st 2 a2 (nx (ri (tr ?_)))
 injection h with h; subst h
 exact retn_step (vs := [(vI 0), (vB false)]) (by kernel_rfl) (by kernel_rfl)
 refine ki (xi (so ?_))
 let a3 : St := a1.p [(4, (vI 0)), (14, (vB y1)), (13, (.ite (true && ((decide ((ln p0) < 1)) == false)) (vB (decide (19 < (ln p0)))))), (12, (.ite (true && ((decide ((ln p0) < 1)) == false)) (vI (ln p0)))), (11, (.ite (true && ((decide ((ln p0) < 1)) == false)) (vS p0)))]
 refine st 1 a3 (nx (si (so ?_)))
 let a4 : St := a3.p [(5, (vI 0))]
 exact st 1 a4 (nx (bi (loop_go (s' := stsNumber_L0 p0 0 0) (wr [] (es (es (es er_nil))) br_nil) (OK_sNumber_L0 p0 0 0 _ h))))
theorem OK_sSignOk_J0 (x4 : Bool) (r : Bool) (h : sSignOk_J0 x4 = some r) : avc Tryz.prog acsSignOk_J0 (qsSignOk_1 r) (stsSignOk_J0 x4) := by
 rw [sSignOk_J0] at h
 delta acsSignOk_J0
 refine cd h (fun h => ?_) fun h => ?_
 refine so ?_
 let a18 : St := (stsSignOk_J0 x4).p [(2, (vB true))]
 refine st 1 a18 (nx (ri (br (tr ?_))))
 injection h with h; subst h
 exact r1 (v := (vB true))
 refine ki (bn (xi (so ?_)))
 let a19 : St := (stsSignOk_J0 x4).p [(2, (vB false))]
 refine st 1 a19 (nx (ri ?_))
 injection h with h; subst h
 exact r1 (v := (vB false))
theorem OK_sSignOk (p0 : (List UInt8)) : FOk Tryz.prog 95 [(vS p0)] (fun y => (vB y)) (sSignOk p0) := by
 intro r h
 rw [sSignOk] at h
 refine aof trsSignOk ?_
 show avc Tryz.prog acsSignOk (qsSignOk _) ⟨[(0, (vS p0))], []⟩
 delta acsSignOk
 refine so ?_
 let a0 : St := ⟨[(2, (vB false)), (0, (vS p0))], []⟩
 refine st 1 a0 (nx (si (so ?_)))
 let a1 : St := a0.p [(3, (vS p0))]
 refine st 1 a1 (nx (bi (si (so ?_))))
 let a2 : St := a1.p [(4, (vB (decide (p0 = [40])))), (5, (vB (decide (p0 = [40]))))]
 refine st 2 a2 (nx ?_)
 refine cd h (fun h => ?_) fun h => ?_
 exact ki (next_step (s' := stsSignOk_J0 (decide (p0 = [40]))) (wr [] (es er_nil) br_nil) (OK_sSignOk_J0 (decide (p0 = [40])) _ h))
 refine so ?_
 let a3 : St := a2.p [(4, (vB (decide (p0 = [41])))), (6, (vB (decide (p0 = [41]))))]
 refine st 2 a3 (nx ?_)
 refine cd h (fun h => ?_) fun h => ?_
 exact ki (next_step (s' := stsSignOk_J0 (decide (p0 = [41]))) (wr [] (es er_nil) br_nil) (OK_sSignOk_J0 (decide (p0 = [41])) _ h))
 refine so ?_
 let a4 : St := a3.p [(4, (vB (decide (p0 = [44])))), (7, (vB (decide (p0 = [44]))))]
 refine st 2 a4 (nx ?_)
 refine cd h (fun h => ?_) fun h => ?_
 exact ki (next_step (s' := stsSignOk_J0 (decide (p0 = [44]))) (wr [] (es er_nil) br_nil) (OK_sSignOk_J0 (decide (p0 = [44])) _ h))
 refine so ?_
 let a5 : St := a4.p [(4, (vB (decide (p0 = [46])))), (8, (vB (decide (p0 = [46]))))]
 refine st 2 a5 (nx ?_)
 refine cd h (fun h => ?_) fun h => ?_
 exact ki (next_step (s' := stsSignOk_J0 (decide (p0 = [46]))) (wr [] (es er_nil) br_nil) (OK_sSignOk_J0 (decide (p0 = [46])) _ h))
 refine so ?_
 let a6 : St := a5.p [(4, (vB (decide (p0 = [42])))), (9, (vB (decide (p0 = [42]))))]
 refine st 2 a6 (nx ?_)
 refine cd h (fun h => ?_) fun h => ?_
 exact ki (next_step (s' := stsSignOk_J0 (decide (p0 = [42]))) (wr [] (es er_nil) br_nil) (OK_sSignOk_J0 (decide (p0 = [42])) _ h))
 refine so ?_
 let a7 : St := a6.p [(4, (vB (decide (p0 = [43])))), (10, (vB (decide (p0 = [43]))))]
 refine st 2 a7 (nx ?_)
 refine cd h (fun h => ?_) fun h => ?_
 exact ki (next_step (s' := stsSignOk_J0 (decide (p0 = [43]))) (wr [] (es er_nil) br_nil) (OK_sSignOk_J0 (decide (p0 = [43])) _ h))
 refine so ?_
 let a8 : St := a7.p [(4, (vB (decide (p0 = [45])))), (11, (vB (decide (p0 = [45]))))]
 refine st 2 a8 (nx ?_)
 refine cd h (fun h => ?_) fun h => ?_
 exact ki (next_step (s' := stsSignOk_J0 (decide (p0 = [45]))) (wr [] (es er_nil) br_nil) (OK_sSignOk_J0 (decide (p0 = [45])) _ h))
 refine so ?_
 let a9 : St := a8.p [(4, (vB (decide (p0 = [47])))), (12, (vB (decide (p0 = [47]))))]
 refine st 2 a9 (nx ?_)
 refine cd h (fun h => ?_) fun h => ?_
 exact ki (next_step (s' := stsSignOk_J0 (decide (p0 = [47]))) (wr [] (es er_nil) br_nil) (OK_sSignOk_J0 (decide (p0 = [47])) _ h))
 refine so ?_
 let a10 : St := a9.p [(4, (vB (decide (p0 = [37])))), (13, (vB (decide (p0 = [37]))))]
 refine st 2 a10 (nx ?_)
 refine cd h (fun h => ?_) fun h => ?_
 exact ki (next_step (s' := stsSignOk_J0 (decide (p0 = [37]))) (wr [] (es er_nil) br_nil) (OK_sSignOk_J0 (decide (p0 = [37])) _ h))
 refine so ?_
 let a11 : St := a10.p [(4, (vB (decide (p0 = [61])))), (14, (vB (decide (p0 = [61]))))]
 refine st 2 a11 (nx ?_)
 refine cd h (fun h => ?_) fun h => ?_
 exact ki (next_step (s' := stsSignOk_J0 (decide (p0 = [61]))) (wr [] (es er_nil) br_nil) (OK_sSignOk_J0 (decide (p0 = [61])) _ h))
 refine so ?_
 let a12 : St := a11.p [(4, (vB (decide (p0 = [60, 62])))), (15, (vB (decide (p0 = [60, 62]))))]
 refine st 2 a12 (nx ?_)
 refine cd h (fun h => ?_) fun h => ?_
 exact ki (next_step (s' := stsSignOk_J0 (decide (p0 = [60, 62]))) (wr [] (es er_nil) br_nil) (OK_sSignOk_J0 (decide (p0 = [60, 62])) _ h))
 refine so ?_
 let a13 : St := a12.p [(4, (vB (decide (p0 = [60])))), (16, (vB (decide (p0 = [60]))))]
 refine st 2 a13 (nx ?_)
 refine cd h (fun h => ?_) fun h => ?_
 exact ki (next_step (s' := stsSignOk_J0 (decide (p0 = [60]))) (wr [] (es er_nil) br_nil) (OK_sSignOk_J0 (decide (p0 = [60])) _ h))
 refine so ?_
 let a14 : St := a13.p [(4, (vB (decide (p0 = [60, 61])))), (17, (vB (decide (p0 = [60, 61]))))]
 refine st 2 a14 (nx ?_)
 refine cd h (fun h => ?_) fun h => ?_
 exact ki (next_step (s' := stsSignOk_J0 (decide (p0 = [60, 61]))) (wr [] (es er_nil) br_nil) (OK_sSignOk_J0 (decide (p0 = [60, 61])) _ h))
 refine so ?_
 let a15 : St := a14.p [(4, (vB (decide (p0 = [62])))), (18, (vB (decide (p0 = [62]))))]
 refine st 2 a15 (nx ?_)
 refine cd h (fun h => ?_) fun h => ?_
 exact ki (next_step (s' := stsSignOk_J0 (decide (p0 = [62]))) (wr [] (es er_nil) br_nil) (OK_sSignOk_J0 (decide (p0 = [62])) _ h))
 refine so ?_
 let a16 : St := a15.p [(4, (vB (decide (p0 = [62, 61])))), (19, (vB (decide (p0 = [62, 61]))))]
 refine st 2 a16 (nx ?_)
 refine cd h (fun h => ?_) fun h => ?_
 exact ki (next_step (s' := stsSignOk_J0 (decide (p0 = [62, 61]))) (wr [] (es er_nil) br_nil) (OK_sSignOk_J0 (decide (p0 = [62, 61])) _ h))
 refine oi ?_
 let a17 : St := a16.p [(4, (vB (decide (p0 = [124, 124])))), (20, (vB (decide (p0 = [124, 124]))))]
 exact st 2 a17 (ni (next_step (s' := stsSignOk_J0 (decide (p0 = [124, 124]))) (wr [] (es er_nil) br_nil) (OK_sSignOk_J0 (decide (p0 = [124, 124])) _ h)))
theorem OK_sTokenOk (p0 : GToken) : FOk Tryz.prog 48 [(vGToken p0)] (fun y => (vB y)) (sTokenOk p0) := by
 intro r h
 rw [sTokenOk] at h
 refine aof trsTokenOk ?_
 show avc Tryz.prog acsTokenOk (qsTokenOk _) ⟨[(0, (vGToken p0))], []⟩
 delta acsTokenOk
 refine so ?_
 let a0 : St := ⟨[(2, (vB false)), (1, (.ptr 1 0)), (0, (vGToken p0))], [(1, bGToken p0)]⟩
 refine st 2 a0 (nx (si (so ?_)))
 let a1 : St := a0.p [(6, (vI p0.kind)), (5, (.ptr 1 0))]
 refine st 2 a1 (nx (bi (so ?_)))
 let a2 : St := a1.p [(7, (vB (decide (p0.kind = 1)))), (8, (vB (decide (p0.kind = 1))))]
 refine st 2 a2 (nx ?_)
 refine cd h (fun h => ?_) fun h => ?_
 refine si (dops_in ?_)
 let a3 : St := a2.p [(10, (vS p0.text)), (9, (.ptr 1 1))]
 refine dsts_ok 2 (s' := a3) (by kernel_rfl) (dcall_step (m := sKeyOf p0.text) (args := [(vS p0.text)]) (v' := (fun y => (vI y))) h (OK_sKeyOf p0.text) (by kernel_rfl) (by kernel_rfl) (fun _ => rfl) ?_)
 clear h; intro y1 h
 let a4 : St := a3.p [(13, (vB (decide (0 < y1)))), (12, (vB (decide (0 < y1)))), (11, (vI y1))]
 refine dsts_ok 2 (s' := a4) (by kernel_rfl) (dgp_step (p := true) (b := (decide (0 < y1))) (v' := (.ptr 1 1)) (by kernel_rfl) rfl rfl (fun hc => vl) (dgp_step (p := true) (b := (decide (0 < y1))) (v' := (vS p0.text)) (by kernel_rfl) rfl rfl (fun hc => vg hc) ?_))
 refine dgcall_step (p := true) (b := (decide (0 < y1))) (m := sFold p0.text) (dflt := default) (args := [(vS p0.text)]) (v' := (fun y => (vS y))) h (by kernel_rfl) (OK_sFold p0.text) (fun hc => by kernel_rfl) (by kernel_rfl) (fun _ => rfl) (fun hc => (Eq.trans (b := ([(true && ((decide (0 < y1)) == true))] : List Bool).all id) (by kernel_rfl) (all_c hc rfl))) ?_
 clear h; intro y2 h
 refine dgp_step (p := true) (b := (decide (0 < y1))) (v' := (.ptr 1 1)) (by kernel_rfl) rfl rfl (fun hc => vl) (dgp_step (p := true) (b := (decide (0 < y1))) (v' := (vS p0.text)) (by kernel_rfl) rfl rfl (fun hc => vg hc) ?_)
 refine dgp_step (p := true) (b := (decide (0 < y1))) (v' := (vB (decide (y2 = p0.text)))) (by kernel_rfl) rfl rfl (fun hc => vop_val1 (Eq.trans (b := ([(true && ((decide (0 < y1)) == true)), (true && ((decide (0 < y1)) == true))] : List Bool).all id) (by kernel_rfl) (all_c hc (all_c hc rfl))) (by kernel_rfl)) ?_
 refine dv_step (m := some (if (decide (0 < y1)) = true then (decide (y2 = p0.text)) else false)) (v' := fun y => (vB y)) h rfl rfl (fun y hy => vop_pickV hy (p := (true && ((decide (0 < y1)) == true))) (q := true) (by kernel_rfl) (by kernel_rfl) (by kernel_rfl) (by kernel_rfl) (fun hb => gc_t rfl hb) (fun _ => rfl)) ?_
 clear h; intro y3 h
 let a5 : St := a4.p [(2, (vB y3)), (20, (vB y3)), (19, (.ite (true && ((decide (0 < y1)) == true)) (vB (decide (y2 = p0.text))))), (18, (.ite (true && ((decide (0 < y1)) == true)) (vS p0.text))), (17, (.ite (true && ((decide (0 < y1)) == true)) (.ptr 1 1))), (16, (.ite (true && ((decide (0 < y1)) == true)) (vS y2))), (15, (.ite (true && ((decide (0 < y1)) == true)) (vS p0.text))), (14, (.ite (true && ((decide (0 < y1)) == true)) (.ptr 1 1)))]
 refine dsts_ok 1 (s' := a5) (by kernel_rfl) (dnil_in (by kernel_rfl) (by kernel_rfl) (xi (ri (br (tr ?_)))))
 injection h with h; subst h
 exact r1 (v := (vB y3))
 refine so ?_
 let a6 : St := a2.p [(21, (vB (decide (p0.kind = 2)))), (22, (vB (decide (p0.kind = 2))))]
 refine st 2 a6 (nx ?_)
 refine cd h (fun h => ?_) fun h => ?_
 refine so ?_
 let a7 : St := a6.p [(24, (vS p0.text)), (23, (.ptr 1 1))]
 refine st 2 a7 (cs h (OK_sNameOk p0.text) fun y4 h => ?_)
 let a8 : St := a7.p [(2, (vB y4)), (25, (vB y4))]
 refine st 1 a8 (nx (ri (br (tr ?_))))
 injection h with h; subst h
 exact r1 (v := (vB y4))
 refine so ?_
 let a9 : St := a6.p [(26, (vB (decide (p0.kind = 3)))), (27, (vB (decide (p0.kind = 3))))]
 refine st 2 a9 (nx ?_)
 refine cd h (fun h => ?_) fun h => ?_
 refine so ?_
 let a10 : St := a9.p [(30, (vS p0.text)), (29, (.ptr 1 1))]
 refine st 2 a10 (cs h (OK_sNumber p0.text) fun y5 h => ?_)
 let a11 : St := a10.p [(4, (vB y5.2)), (3, (vI y5.1)), (33, (vB y5.2)), (32, (vI y5.1)), (28, (.tup [(vI y5.1), (vB y5.2)])), (31, (.tup [(vI y5.1), (vB y5.2)]))]
 refine st 5 a11 (nx (so ?_))
 let a12 : St := a11.p [(2, (vB y5.2)), (34, (vB y5.2))]
 refine st 2 a12 (nx (ri (br (tr ?_))))
 injection h with h; subst h
 exact r1 (v := (vB y5.2))
 refine so ?_
 let a13 : St := a9.p [(35, (vB (decide (p0.kind = 4)))), (36, (vB (decide (p0.kind = 4))))]
 refine st 2 a13 (nx ?_)
 refine cd h (fun h => ?_) fun h => ?_
 refine so ?_
 let a14 : St := a13.p [(2, (vB (decide ((ln p0.text) ≤ 40)))), (40, (vB (decide ((ln p0.text) ≤ 40)))), (39, (vI (ln p0.text))), (38, (vS p0.text)), (37, (.ptr 1 1))]
 refine st 5 a14 (nx (ri (br (tr ?_))))
 injection h with h; subst h
 exact r1 (v := (vB (decide ((ln p0.text) ≤ 40))))
 refine so ?_
 let a15 : St := a13.p [(41, (vB (decide (p0.kind = 5)))), (42, (vB (decide (p0.kind = 5))))]
 refine st 2 a15 (nx ?_)
 refine cd h (fun h => ?_) fun h => ?_
 refine so ?_
 let a16 : St := a15.p [(44, (vS p0.text)), (43, (.ptr 1 1))]
 refine st 2 a16 (cs h (OK_sSignOk p0.text) fun y6 h => ?_)
 let a17 : St := a16.p [(2, (vB y6)), (45, (vB y6))]
 refine st 1 a17 (nx (ri (br (tr ?_))))
 injection h with h; subst h
 exact r1 (v := (vB y6))
 refine ki (bn (xi (so ?_)))
 let a18 : St := a15.p [(2, (vB false))]
 refine st 1 a18 (nx (ri ?_))
 injection h with h; subst h
 exact r1 (v := (vB false))
theorem OK_sTokenText (p0 : GToken) : FOk Tryz.prog 50 [(vGToken p0)] (fun y => (vS y)) (sTokenText p0) := by
 intro r h
 rw [sTokenText] at h
 refine aof trsTokenText ?_
 show avc Tryz.prog acsTokenText (qsTokenText _) ⟨[(0, (vGToken p0))], []⟩
 delta acsTokenText
 refine so ?_
 let a0 : St := ⟨[(2, (vS [])), (1, (.ptr 1 0)), (0, (vGToken p0))], [(1, bGToken p0)]⟩
 refine st 2 a0 (nx (si (so ?_)))
 let a1 : St := a0.p [(3, (vGToken p0))]
 refine st 1 a1 (cs h (OK_sTokenOk p0) fun y1 h => ?_)
 let a2 : St := a1.p [(5, (vB (!y1))), (4, (vB y1))]
 refine st 1 a2 (nx ?_)
 refine cd h (fun h => ?_) fun h => ?_
 refine so ?_
 let a3 : St := a2.p [(2, (vS []))]
 refine st 1 a3 (nx (ri (tr ?_)))
 injection h with h; subst h
 exact r1 (v := (vS []))
 refine ki (xi (si (so ?_)))
 let a4 : St := a2.p [(7, (vI p0.kind)), (6, (.ptr 1 0))]
 refine st 2 a4 (nx (bi (so ?_)))
 let a5 : St := a4.p [(8, (vB (decide (p0.kind = 2)))), (9, (vB (decide (p0.kind = 2))))]
 refine st 2 a5 (nx ?_)
 refine cd h (fun h => ?_) fun h => ?_
 refine so ?_
 let a6 : St := a5.p [(11, (vS p0.text)), (10, (.ptr 1 1))]
 refine st 2 a6 (cs h (OK_sNameText p0.text) fun y2 h => ?_)
 let a7 : St := a6.p [(2, (vS y2)), (12, (vS y2))]
 refine st 1 a7 (nx (ri (br (tr ?_))))
 injection h with h; subst h
 exact r1 (v := (vS y2))
 refine so ?_
 let a8 : St := a5.p [(13, (vB (decide (p0.kind = 4)))), (14, (vB (decide (p0.kind = 4))))]
 refine st 2 a8 (nx ?_)
 refine cd h (fun h => ?_) fun h => ?_
 refine so ?_
 let a9 : St := a8.p [(16, (vS p0.text)), (15, (.ptr 1 1))]
 refine st 2 a9 (cs h (OK_sQuoteText p0.text) fun y3 h => ?_)
 let a10 : St := a9.p [(2, (vS y3)), (17, (vS y3))]
 refine st 1 a10 (nx (ri (br (tr ?_))))
 injection h with h; subst h
 exact r1 (v := (vS y3))
 refine ki (bn (xi (so ?_)))
 let a11 : St := a8.p [(2, (vS p0.text)), (19, (vS p0.text)), (18, (.ptr 1 1))]
 refine st 3 a11 (nx (ri ?_))
 injection h with h; subst h
 exact r1 (v := (vS p0.text))
theorem OK_sL4Quoted (p0 : GToken) : FOk Tryz.prog 97 [(vGToken p0)] (fun y => (vB y)) (sL4Quoted p0) := by
 intro r h
 rw [sL4Quoted] at h
 refine aof trsL4Quoted ?_
 show avc Tryz.prog acsL4Quoted (qsL4Quoted _) ⟨[(0, (vGToken p0))], []⟩
 delta acsL4Quoted
 refine so ?_
 let a0 : St := ⟨[(2, (vB false)), (1, (.ptr 1 0)), (0, (vGToken p0))], [(1, bGToken p0)]⟩
 refine st 2 a0 (nx (so ?_))
 let a1 : St := a0.p [(6, (vB (decide (p0.kind = 2)))), (5, (vB (decide (p0.kind = 2)))), (4, (vI p0.kind)), (3, (.ptr 1 0))]
 refine st 4 a1 (gp true (decide (p0.kind = 2)) (.ptr 1 1) (fun hc => vl) (gp true (decide (p0.kind = 2)) (vS p0.text) (fun hc => vg hc) ?_))
 refine gcall_step (p := true) (b := (decide (p0.kind = 2))) (m := sPlainName p0.text) (dflt := default) (args := [(vS p0.text)]) (v' := (fun y => (vB y))) h (by kernel_rfl) (OK_sPlainName p0.text) (fun hc => by kernel_rfl) (by kernel_rfl) (fun _ => rfl) (fun hc => (Eq.trans (b := ([(true && ((decide (p0.kind = 2)) == true))] : List Bool).all id) (by kernel_rfl) (all_c hc rfl))) ?_
 clear h; intro y1 h
 refine gp true (decide (p0.kind = 2)) (vB (!y1)) (fun hc => vg hc) (vs (fun (y : Bool) => (vB y)) h (fun y hy => vop_pickV hy (p := (true && ((decide (p0.kind = 2)) == true))) (q := true) (by kernel_rfl) (by kernel_rfl) (by kernel_rfl) (by kernel_rfl) (fun hb => gc_t rfl hb) (fun _ => rfl)) fun y2 h => ?_)
 let a2 : St := a1.p [(2, (vB y2)), (11, (vB y2)), (10, (.ite (true && ((decide (p0.kind = 2)) == true)) (vB (!y1)))), (9, (.ite (true && ((decide (p0.kind = 2)) == true)) (vB y1))), (8, (.ite (true && ((decide (p0.kind = 2)) == true)) (vS p0.text))), (7, (.ite (true && ((decide (p0.kind = 2)) == true)) (.ptr 1 1)))]
 refine st 1 a2 (nx (ri ?_))
 injection h with h; subst h
 exact r1 (v := (vB y2))
theorem OK_sL4Word (p0 : GToken) : FOk Tryz.prog 96 [(vGToken p0)] (fun y => (vB y)) (sL4Word p0) := by
 intro r h
 rw [sL4Word] at h
 refine aof trsL4Word ?_
 show avc Tryz.prog acsL4Word (qsL4Word _) ⟨[(0, (vGToken p0))], []⟩
 delta acsL4Word
 refine so ?_
 let a0 : St := ⟨[(2, (vB false)), (1, (.ptr 1 0)), (0, (vGToken p0))], [(1, bGToken p0)]⟩
 refine st 2 a0 (nx (so ?_))
 let a1 : St := a0.p [(6, (vB (decide (p0.kind = 1)))), (5, (vB (decide (p0.kind = 1)))), (4, (vI p0.kind)), (3, (.ptr 1 0))]
 refine st 4 a1 (gp true (decide (p0.kind = 1)) (.ptr 1 0) (fun hc => vl) (gp true (decide (p0.kind = 1)) (vI p0.kind) (fun hc => vg hc) (gp true (decide (p0.kind = 1)) (vB (decide (p0.kind = 3))) (fun hc => vg hc) ?_)))
 refine vs (fun (y : Bool) => (vB y)) h (fun y hy => vop_pickV hy (p := true) (q := (true && ((decide (p0.kind = 1)) == false))) (by kernel_rfl) (by kernel_rfl) (by kernel_rfl) (by kernel_rfl) (fun _ => rfl) (fun hb => gc_f rfl hb)) fun y1 h => ?_
 let a2 : St := a1.p [(11, (vB y1)), (10, (vB y1)), (9, (.ite (true && ((decide (p0.kind = 1)) == false)) (vB (decide (p0.kind = 3))))), (8, (.ite (true && ((decide (p0.kind = 1)) == false)) (vI p0.kind))), (7, (.ite (true && ((decide (p0.kind = 1)) == false)) (.ptr 1 0)))]
 refine st 1 a2 (gp true y1 (.ptr 1 0) (fun hc => vl) (gp true y1 (vI p0.kind) (fun hc => vg hc) (gp true y1 (vB (decide (p0.kind = 2))) (fun hc => vg hc) (gp true y1 (vB (decide (p0.kind = 2))) (fun hc => vg hc) (gp (true && (y1 == false)) (decide (p0.kind = 2)) (.ptr 1 1) (fun hc => vl) (gp (true && (y1 == false)) (decide (p0.kind = 2)) (vS p0.text) (fun hc => vg hc) ?_))))))
 refine gcall_step (p := (true && (y1 == false))) (b := (decide (p0.kind = 2))) (m := sPlainName p0.text) (dflt := default) (args := [(vS p0.text)]) (v' := (fun y => (vB y))) h (by kernel_rfl) (OK_sPlainName p0.text) (fun hc => by kernel_rfl) (by kernel_rfl) (fun _ => rfl) (fun hc => (Eq.trans (b := ([((true && (y1 == false)) && ((decide (p0.kind = 2)) == true))] : List Bool).all id) (by kernel_rfl) (all_c hc rfl))) ?_
 clear h; intro y2 h
 refine gv true y1 (fun (y : Bool) => (vB y)) h (fun y hy hc => vop_pickV hy (p := ((true && (y1 == false)) && ((decide (p0.kind = 2)) == true))) (q := true) (Eq.trans (b := ([(true && (y1 == false))] : List Bool).all id) (by kernel_rfl) (all_c hc rfl)) (by kernel_rfl) (by kernel_rfl) (by kernel_rfl) (fun hb => gc_t hc hb) (fun _ => rfl)) fun y3 h => ?_
 refine vs (fun (y : Bool) => (vB y)) h (fun y hy => vop_pickV hy (p := true) (q := (true && (y1 == false))) (by kernel_rfl) (by kernel_rfl) (by kernel_rfl) (by kernel_rfl) (fun _ => rfl) (fun hb => gc_f rfl hb)) fun y4 h => ?_
 let a3 : St := a2.p [(2, (vB y4)), (20, (vB y4)), (19, (.ite (gF y1) (vB y3))), (18, (.ite ((gF y1) && ((decide (p0.kind = 2)) == true)) (vB y2))), (17, (.ite ((gF y1) && ((decide (p0.kind = 2)) == true)) (vS p0.text))), (16, (.ite ((gF y1) && ((decide (p0.kind = 2)) == true)) (.ptr 1 1))), (15, (.ite (gF y1) (vB (decide (p0.kind = 2))))), (14, (.ite (gF y1) (vB (decide (p0.kind = 2))))), (13, (.ite (gF y1) (vI p0.kind))), (12, (.ite (gF y1) (.ptr 1 0)))]
 refine st 1 a3 (nx (ri ?_))
 injection h with h; subst h
 exact r1 (v := (vB y4))
theorem OK_sNeedsGap (p0 : GToken) (p1 : GToken) : FOk Tryz.prog 49 [(vGToken p0), (vGToken p1)] (fun y => (vB y)) (sNeedsGap p0 p1) := by
 intro r h
 rw [sNeedsGap] at h
 refine aof trsNeedsGap ?_
 show avc Tryz.prog acsNeedsGap (qsNeedsGap _) ⟨[(0, (vGToken p0)), (1, (vGToken p1))], []⟩
 delta acsNeedsGap
 refine so ?_
 let a0 : St := ⟨[(4, (vB false)), (3, (.ptr 3 0)), (2, (.ptr 2 0)), (0, (vGToken p0)), (1, (vGToken p1))], [(3, bGToken p1), (2, bGToken p0)]⟩
 refine st 3 a0 (nx (si (so ?_)))
 let a1 : St := a0.p [(5, (vGToken p0))]
 refine st 1 a1 (cs h (OK_sTokenOk p0) fun y1 h => ?_)
 let a2 : St := a1.p [(8, (vB (!y1))), (7, (vB (!y1))), (6, (vB y1))]
 refine st 2 a2 (gp true (!y1) (vGToken p1) (fun hc => vl) (gcall_step (p := true) (b := (!y1)) (m := sTokenOk p1) (dflt := default) (args := [(vGToken p1)]) (v' := (fun y => (vB y))) h (by kernel_rfl) (OK_sTokenOk p1) (fun hc => by kernel_rfl) (by kernel_rfl) (fun _ => rfl) (fun hc => (Eq.trans (b := ([(true && ((!y1) == false))] : List Bool).all id) (by kernel_rfl) (all_c hc rfl))) ?_))
 clear h; intro y2 h
 refine gp true (!y1) (vB (!y2)) (fun hc => vg hc) (vs (fun (y : Bool) => (vB y)) h (fun y hy => vop_pickV hy (p := true) (q := (true && ((!y1) == false))) (by kernel_rfl) (by kernel_rfl) (by kernel_rfl) (by kernel_rfl) (fun _ => rfl) (fun hb => gc_f rfl hb)) fun y3 h => (nx ?_))
 refine cd h (fun h => ?_) fun h => ?_
 refine so ?_
 let a3 : St := a2.p [(4, (vB false)), (12, (vB y3)), (11, (.ite (true && ((!y1) == false)) (vB (!y2)))), (10, (.ite (true && ((!y1) == false)) (vB y2))), (9, (.ite (true && ((!y1) == false)) (vGToken p1)))]
 refine st 1 a3 (nx (ri (tr ?_)))
 injection h with h; subst h
 exact r1 (v := (vB false))
 refine ki (xi (si (so ?_)))
 let a4 : St := a2.p [(13, (vGToken p0)), (12, (vB y3)), (11, (.ite (true && ((!y1) == false)) (vB (!y2)))), (10, (.ite (true && ((!y1) == false)) (vB y2))), (9, (.ite (true && ((!y1) == false)) (vGToken p1)))]
 refine st 1 a4 (cs h (OK_sL4Word p0) fun y4 h => ?_)
 let a5 : St := a4.p [(15, (vB y4)), (14, (vB y4))]
 refine st 1 a5 (gp true y4 (vGToken p1) (fun hc => vl) (gcall_step (p := true) (b := y4) (m := sL4Word p1) (dflt := default) (args := [(vGToken p1)]) (v' := (fun y => (vB y))) h (by kernel_rfl) (OK_sL4Word p1) (fun hc => by kernel_rfl) (by kernel_rfl) (fun _ => rfl) (fun hc => (Eq.trans (b := ([(true && (y4 == true))] : List Bool).all id) (by kernel_rfl) (all_c hc rfl))) ?_))
 clear h; intro y5 h
 refine vs (fun (y : Bool) => (vB y)) h (fun y hy => vop_pickV hy (p := (true && (y4 == true))) (q := true) (by kernel_rfl) (by kernel_rfl) (by kernel_rfl) (by kernel_rfl) (fun hb => gc_t rfl hb) (fun _ => rfl)) fun y6 h => ?_
 let a6 : St := a5.p [(19, (vB y6)), (18, (vB y6)), (17, (.ite (gT y4) (vB y5))), (16, (.ite (gT y4) (vGToken p1)))]
 refine st 1 a6 (gp true y6 (.ptr 2 0) (fun hc => vl) (gp true y6 (vI p0.kind) (fun hc => vg hc) (gp true y6 (vB (decide (p0.kind = 4))) (fun hc => vg hc) (gp true y6 (vB (decide (p0.kind = 4))) (fun hc => vg hc) (gp (true && (y6 == false)) (decide (p0.kind = 4)) (.ptr 3 0) (fun hc => vl) (gp (true && (y6 == false)) (decide (p0.kind = 4)) (vI p1.kind) (fun hc => vg hc) ?_))))))
 refine gp (true && (y6 == false)) (decide (p0.kind = 4)) (vB (decide (p1.kind = 4))) (fun hc => vg hc) ?_
 refine gv true y6 (fun (y : Bool) => (vB y)) h (fun y hy hc => vop_pickV hy (p := ((true && (y6 == false)) && ((decide (p0.kind = 4)) == true))) (q := true) (Eq.trans (b := ([(true && (y6 == false))] : List Bool).all id) (by kernel_rfl) (all_c hc rfl)) (by kernel_rfl) (by kernel_rfl) (by kernel_rfl) (fun hb => gc_t hc hb) (fun _ => rfl)) fun y7 h => ?_
 refine vs (fun (y : Bool) => (vB y)) h (fun y hy => vop_pickV hy (p := true) (q := (true && (y6 == false))) (by kernel_rfl) (by kernel_rfl) (by kernel_rfl) (by kernel_rfl) (fun _ => rfl) (fun hb => gc_f rfl hb)) fun y8 h => ?_
 let a7 : St := a6.p [(29, (vB y8)), (28, (vB y8)), (27, (.ite (gF y6) (vB y7))), (26, (.ite ((gF y6) && ((decide (p0.kind = 4)) == true)) (vB (decide (p1.kind = 4))))), (25, (.ite ((gF y6) && ((decide (p0.kind = 4)) == true)) (vI p1.kind))), (24, (.ite ((gF y6) && ((decide (p0.kind = 4)) == true)) (.ptr 3 0))), (23, (.ite (gF y6) (vB (decide (p0.kind = 4))))), (22, (.ite (gF y6) (vB (decide (p0.kind = 4))))), (21, (.ite (gF y6) (vI p0.kind))), (20, (.ite (gF y6) (.ptr 2 0)))]
 refine st 1 a7 (gp true y8 (vGToken p0) (fun hc => vl) (gcall_step (p := true) (b := y8) (m := sL4Quoted p0) (dflt := default) (args := [(vGToken p0)]) (v' := (fun y => (vB y))) h (by kernel_rfl) (OK_sL4Quoted p0) (fun hc => by kernel_rfl) (by kernel_rfl) (fun _ => rfl) (fun hc => (Eq.trans (b := ([(true && (y8 == false))] : List Bool).all id) (by kernel_rfl) (all_c hc rfl))) ?_))
 clear h; intro y9 h
 refine gp true y8 (vB y9) (fun hc => vg hc) (gp (true && (y8 == false)) y9 (vGToken p1) (fun hc => vl) ?_)
 refine gcall_step (p := (true && (y8 == false))) (b := y9) (m := sL4Quoted p1) (dflt := default) (args := [(vGToken p1)]) (v' := (fun y => (vB y))) h (by kernel_rfl) (OK_sL4Quoted p1) (fun hc => by kernel_rfl) (by kernel_rfl) (fun _ => rfl) (fun hc => (Eq.trans (b := ([((true && (y8 == false)) && (y9 == true))] : List Bool).all id) (by kernel_rfl) (all_c hc rfl))) ?_
 clear h; intro y10 h
 refine gv true y8 (fun (y : Bool) => (vB y)) h (fun y hy hc => vop_pickV hy (p := ((true && (y8 == false)) && (y9 == true))) (q := true) (Eq.trans (b := ([(true && (y8 == false))] : List Bool).all id) (by kernel_rfl) (all_c hc rfl)) (by kernel_rfl) (by kernel_rfl) (by kernel_rfl) (fun hb => gc_t hc hb) (fun _ => rfl)) fun y11 h => ?_
 refine vs (fun (y : Bool) => (vB y)) h (fun y hy => vop_pickV hy (p := true) (q := (true && (y8 == false))) (by kernel_rfl) (by kernel_rfl) (by kernel_rfl) (by kernel_rfl) (fun _ => rfl) (fun hb => gc_f rfl hb)) fun y12 h => (nx ?_)
 refine cd h (fun h => ?_) fun h => ?_
 refine so ?_
 let a8 : St := a7.p [(4, (vB true)), (36, (vB y12)), (35, (.ite (gF y8) (vB y11))), (34, (.ite ((gF y8) && (y9 == true)) (vB y10))), (33, (.ite ((gF y8) && (y9 == true)) (vGToken p1))), (32, (.ite (gF y8) (vB y9))), (31, (.ite (gF y8) (vB y9))), (30, (.ite (gF y8) (vGToken p0)))]
 refine st 1 a8 (nx (ri (tr ?_)))
 injection h with h; subst h
 exact r1 (v := (vB true))
 refine ki (xi (si (so ?_)))
 let a9 : St := a7.p [(40, (vB (!decide (p0.kind = 5)))), (39, (vB (!decide (p0.kind = 5)))), (38, (vI p0.kind)), (37, (.ptr 2 0)), (36, (vB y12)), (35, (.ite (gF y8) (vB y11))), (34, (.ite ((gF y8) && (y9 == true)) (vB y10))), (33, (.ite ((gF y8) && (y9 == true)) (vGToken p1))), (32, (.ite (gF y8) (vB y9))), (31, (.ite (gF y8) (vB y9))), (30, (.ite (gF y8) (vGToken p0)))]
 refine st 4 a9 (gp true (!decide (p0.kind = 5)) (.ptr 3 0) (fun hc => vl) (gp true (!decide (p0.kind = 5)) (vI p1.kind) (fun hc => vg hc) (gp true (!decide (p0.kind = 5)) (vB (!decide (p1.kind = 5))) (fun hc => vg hc) ?_)))
 refine vs (fun (y : Bool) => (vB y)) h (fun y hy => vop_pickV hy (p := true) (q := (true && ((!decide (p0.kind = 5)) == false))) (by kernel_rfl) (by kernel_rfl) (by kernel_rfl) (by kernel_rfl) (fun _ => rfl) (fun hb => gc_f rfl hb)) fun y13 h => (nx ?_)
 refine cd h (fun h => ?_) fun h => ?_
 refine so ?_
 let a10 : St := a9.p [(4, (vB false)), (44, (vB y13)), (43, (.ite (true && ((!decide (p0.kind = 5)) == false)) (vB (!decide (p1.kind = 5))))), (42, (.ite (true && ((!decide (p0.kind = 5)) == false)) (vI p1.kind))), (41, (.ite (true && ((!decide (p0.kind = 5)) == false)) (.ptr 3 0)))]
 refine st 1 a10 (nx (ri (tr ?_)))
 injection h with h; subst h
 exact r1 (v := (vB false))
 refine ki (xi (si (so ?_)))
 let a11 : St := a9.p [(46, (vS p0.text)), (45, (.ptr 2 1)), (44, (vB y13)), (43, (.ite (true && ((!decide (p0.kind = 5)) == false)) (vB (!decide (p1.kind = 5))))), (42, (.ite (true && ((!decide (p0.kind = 5)) == false)) (vI p1.kind))), (41, (.ite (true && ((!decide (p0.kind = 5)) == false)) (.ptr 3 0)))]
 refine st 2 a11 (nx (bi (so ?_)))
 let a12 : St := a11.p [(47, (vB (decide (p0.text = [45])))), (48, (vB (decide (p0.text = [45]))))]
 refine st 2 a12 (nx ?_)
 refine cd h (fun h => ?_) fun h => ?_
 refine so ?_
 let a13 : St := a12.p [(4, (vB (decide (p1.text = [45])))), (51, (vB (decide (p1.text = [45])))), (50, (vS p1.text)), (49, (.ptr 3 1))]
 refine st 4 a13 (nx (ri (br (tr ?_))))
 injection h with h; subst h
 exact r1 (v := (vB (decide (p1.text = [45]))))
 refine so ?_
 let a14 : St := a12.p [(52, (vB (decide (p0.text = [47])))), (53, (vB (decide (p0.text = [47]))))]
 refine st 2 a14 (nx ?_)
 refine cd h (fun h => ?_) fun h => ?_
 refine so ?_
 let a15 : St := a14.p [(4, (vB (decide (p1.text = [42])))), (56, (vB (decide (p1.text = [42])))), (55, (vS p1.text)), (54, (.ptr 3 1))]
 refine st 4 a15 (nx (ri (br (tr ?_))))
 injection h with h; subst h
 exact r1 (v := (vB (decide (p1.text = [42]))))
 refine so ?_
 let a16 : St := a14.p [(57, (vB (decide (p0.text = [60])))), (58, (vB (decide (p0.text = [60]))))]
 refine st 2 a16 (nx ?_)
 refine cd h (fun h => ?_) fun h => ?_
 refine so ?_
 let a17 : St := a16.p [(60, (vS p1.text)), (59, (.ptr 3 1))]
 refine st 2 a17 (vs (fun (y : Int) => (.d (.i .u8 y))) h (fun y hy => vop_ix (b := p1.text) (k := .i64) hy (by kernel_rfl) (by kernel_rfl) (by kernel_rfl)) fun y14 h => ?_)
 let a18 : St := a17.p [(63, (vB (decide (y14 = 61)))), (62, (vB (decide (y14 = 61)))), (61, (.d (.i .u8 y14)))]
 refine st 2 a18 (gp true (decide (y14 = 61)) (.ptr 3 1) (fun hc => vl) (gp true (decide (y14 = 61)) (vS p1.text) (fun hc => vg hc) (gv true (decide (y14 = 61)) (fun (y : Int) => (.d (.i .u8 y))) h (fun y hy hc => vop_ix (b := p1.text) (k := .i64) hy (Eq.trans (b := ([(true && ((decide (y14 = 61)) == false))] : List Bool).all id) (by kernel_rfl) (all_c hc rfl)) (by kernel_rfl) (by kernel_rfl)) fun y15 h => ?_)))
 refine gp true (decide (y14 = 61)) (vB (decide (y15 = 62))) (fun hc => vg hc) (vs (fun (y : Bool) => (vB y)) h (fun y hy => vop_pickV hy (p := true) (q := (true && ((decide (y14 = 61)) == false))) (by kernel_rfl) (by kernel_rfl) (by kernel_rfl) (by kernel_rfl) (fun _ => rfl) (fun hb => gc_f rfl hb)) fun y16 h => ?_)
 let a19 : St := a18.p [(4, (vB y16)), (68, (vB y16)), (67, (.ite (true && ((decide (y14 = 61)) == false)) (vB (decide (y15 = 62))))), (66, (.ite (true && ((decide (y14 = 61)) == false)) (.d (.i .u8 y15)))), (65, (.ite (true && ((decide (y14 = 61)) == false)) (vS p1.text))), (64, (.ite (true && ((decide (y14 = 61)) == false)) (.ptr 3 1)))]
 refine st 1 a19 (nx (ri (br (tr ?_))))
 injection h with h; subst h
 exact r1 (v := (vB y16))
 refine so ?_
 let a20 : St := a16.p [(69, (vB (decide (p0.text = [62])))), (70, (vB (decide (p0.text = [62]))))]
 refine st 2 a20 (nx ?_)
 refine cd h (fun h => ?_) fun h => ?_
 refine so ?_
 let a21 : St := a20.p [(72, (vS p1.text)), (71, (.ptr 3 1))]
 refine st 2 a21 (vs (fun (y : Int) => (.d (.i .u8 y))) h (fun y hy => vop_ix (b := p1.text) (k := .i64) hy (by kernel_rfl) (by kernel_rfl) (by kernel_rfl)) fun y17 h => ?_)
 let a22 : St := a21.p [(4, (vB (decide (y17 = 61)))), (74, (vB (decide (y17 = 61)))), (73, (.d (.i .u8 y17)))]
 refine st 2 a22 (nx (ri (br (tr ?_))))
 injection h with h; subst h
 exact r1 (v := (vB (decide (y17 = 61))))
 refine ki (bn (xi (so ?_)))
 let a23 : St := a20.p [(4, (vB false))]
 refine st 1 a23 (nx (ri ?_))
 injection h with h; subst h
 exact r1 (v := (vB false))
theorem OKs_sL4Join_J1 (p0 : (List GToken)) (p1 : Bool) : (∀ (x6 : Int) (x5_9 : (List Int)) (r : (List UInt8)), sL4Join_J1 p0 p1 x6 x5_9 = some r → avc Tryz.prog acsL4Join_J1 (qsL4Join_4 r) (stsL4Join_J1 p0 p1 x6 x5_9)) ∧ (∀ (x5 : (List Int)) (x6 : Int) (r : (List UInt8)), sL4Join_L0 p0 p1 x5 x6 = some r → avc Tryz.prog acsL4Join_L0 (qsL4Join_1 r) (stsL4Join_L0 p0 p1 x5 x6)) := by
 refine sL4Join_J1.mutual_partial_correctness p0 p1 (fun x6 x5_9 r => avc Tryz.prog acsL4Join_J1 (qsL4Join_4 r) (stsL4Join_J1 p0 p1 x6 x5_9)) (fun x5 x6 r => avc Tryz.prog acsL4Join_L0 (qsL4Join_1 r) (stsL4Join_L0 p0 p1 x5 x6)) ?_ ?_
 · intro F_sL4Join_L0 OK_sL4Join_L0 x6 x5_9 r h
   delta acsL4Join_J1
   refine oi ?_
   let a17 : St := (stsL4Join_J1 p0 p1 x6 x5_9).p [(42, (vI x6)), (41, (.d (.sl 3 (p0.map cGToken)))), (40, (.osl 5 5 1 (x5_9.map cU8)))]
   refine st 3 a17 (vs (fun (y : GToken) => (.rp (cGToken y))) h (fun y hy => via (l := p0) (f := cGToken) (g := cGToken) (k := .i64) hy (fun _ => rfl)) fun y11 h => ?_)
   let a18 : St := a17.p [(44, (vGToken y11)), (43, (.rp (cGToken y11)))]
   refine st 1 a18 (cs h (OK_sTokenText y11) fun y12 h => ?_)
   refine app_step (t := 5) (l := x5_9) (m := (toBytes y12)) (f := cU8) (S' := fun y => ⟨[(46, (.osl 46 5 1 (y.map cU8))), (45, (vS y12)), (44, (vGToken y11)), (43, (.rp (cGToken y11))), (42, (vI x6)), (41, (.d (.sl 3 (p0.map cGToken)))), (40, (.d (.sl 1 (x5_9.map cU8)))), (0, (.d (.sl 3 (p0.map cGToken)))), (1, (vB p1)), (5, (.d (.sl 1 (x5_9.map cU8)))), (6, (vI x6))], []⟩) h (by kernel_rfl) (by kernel_rfl) (by kernel_rfl) (by kernel_rfl) (fun y => by kernel_rfl) ?_
   clear h; intro y13 h
   let a19 : St := ⟨[(5, (.osl 5 5 1 (y13.map cU8))), (46, (.d (.sl 1 (y13.map cU8)))), (45, (vS y12)), (44, (vGToken y11)), (43, (.rp (cGToken y11))), (42, (vI x6)), (41, (.d (.sl 3 (p0.map cGToken)))), (40, (.d (.sl 1 (x5_9.map cU8)))), (0, (.d (.sl 3 (p0.map cGToken)))), (1, (vB p1)), (5, (.d (.sl 1 (x5_9.map cU8)))), (6, (vI x6))], []⟩
   refine st 1 a19 (ni (bn (xi (oi ?_))))
   let a20 : St := a19.p [(6, (vI (IntKind.wrap .i64 (x6 + 1)))), (13, (vI (IntKind.wrap .i64 (x6 + 1)))), (12, (vI x6))]
   exact st 3 a20 (ni (loop_back (s' := stsL4Join_L0 p0 p1 y13 (IntKind.wrap .i64 (x6 + 1))) (wr [(5, .old 5)] (es (es (eo 5 (es er_nil)))) br_nil) (OK_sL4Join_L0 y13 (IntKind.wrap .i64 (x6 + 1)) _ h)))
 · intro F_sL4Join_J1 OK_sL4Join_J1 x5 x6 r h
   delta acsL4Join_L0
   refine loop_unroll (si (so ?_))
   let a3 : St := (stsL4Join_L0 p0 p1 x5 x6).p [(9, (.d (.sl 3 (p0.map cGToken)))), (8, (vI x6))]
   refine st 2 a3 (ps (vI (ln p0)) (vln (sz := 3) (l := p0) (f := cGToken)) ?_)
   let a4 : St := a3.p [(11, (vB (decide (x6 < (ln p0))))), (10, (vI (ln p0)))]
   refine st 1 a4 (nx ?_)
   refine cd h (fun h => ?_) fun h => ?_
   refine ki (xi (si (bi (si (so ?_)))))
   let a5 : St := a4.p [(15, (vI x6)), (14, (.d (.sl 3 (p0.map cGToken))))]
   refine st 2 a5 (vs (fun (y : GToken) => (.rp (cGToken y))) h (fun y hy => via (l := p0) (f := cGToken) (g := cGToken) (k := .i64) hy (fun _ => rfl)) fun y1 h => ?_)
   let a6 : St := a5.p [(17, (vGToken y1)), (16, (.rp (cGToken y1)))]
   refine st 1 a6 (cs h (OK_sTokenOk y1) fun y2 h => ?_)
   let a7 : St := a6.p [(19, (vB (!y2))), (18, (vB y2))]
   refine st 1 a7 (nx ?_)
   refine cd h (fun h => ?_) fun h => ?_
   refine so ?_
   let a8 : St := a7.p [(4, (vS []))]
   refine st 1 a8 (nx (ri (tr (br (tr (tr (br (tr ?_))))))))
   injection h with h; subst h
   exact r1 (v := (vS []))
   refine ki (xi (si (si (dops_in ?_))))
   let a9 : St := a7.p [(22, (vB (decide (0 < x6)))), (21, (vB (decide (0 < x6)))), (20, (vI x6))]
   refine dsts_ok 3 (s' := a9) (by kernel_rfl) (dgp_step (p := true) (b := (decide (0 < x6))) (v' := (vB p1)) (by kernel_rfl) rfl rfl (fun hc => vl) (dgp_step (p := true) (b := (decide (0 < x6))) (v' := (vB p1)) (by kernel_rfl) rfl rfl (fun hc => vg hc) (dgp_step (p := (true && ((decide (0 < x6)) == true))) (b := p1) (v' := (.d (.sl 3 (p0.map cGToken)))) (by kernel_rfl) rfl rfl (fun hc => vl) ?_)))
   refine dgp_step (p := (true && ((decide (0 < x6)) == true))) (b := p1) (v' := (vI x6)) (by kernel_rfl) rfl rfl (fun hc => vl) (dgp_step (p := (true && ((decide (0 < x6)) == true))) (b := p1) (v' := (vI (IntKind.wrap .i64 (x6 - 1)))) (by kernel_rfl) rfl rfl (fun hc => vg hc) ?_)
   refine dgv_step (p := (true && ((decide (0 < x6)) == true))) (b := p1) (m := idx p0 (IntKind.wrap .i64 (x6 - 1))) (dflt := default) (v' := fun y => (.rp (cGToken y))) h (by kernel_rfl) rfl rfl (fun y hy hc => vop_ia (l := p0) (f := cGToken) (g := cGToken) (k := .i64) hy (fun _ => rfl) (Eq.trans (b := ([((true && ((decide (0 < x6)) == true)) && (p1 == false)), ((true && ((decide (0 < x6)) == true)) && (p1 == false))] : List Bool).all id) (by kernel_rfl) (all_c hc (all_c hc rfl))) (by kernel_rfl) (by kernel_rfl)) ?_
   clear h; intro y3 h
   refine dgp_step (p := (true && ((decide (0 < x6)) == true))) (b := p1) (v' := (vGToken y3)) (by kernel_rfl) rfl rfl (fun hc => vg hc) (dgp_step (p := (true && ((decide (0 < x6)) == true))) (b := p1) (v' := (.d (.sl 3 (p0.map cGToken)))) (by kernel_rfl) rfl rfl (fun hc => vl) (dgp_step (p := (true && ((decide (0 < x6)) == true))) (b := p1) (v' := (vI x6)) (by kernel_rfl) rfl rfl (fun hc => vl) ?_))
   refine dgv_step (p := (true && ((decide (0 < x6)) == true))) (b := p1) (m := idx p0 x6) (dflt := default) (v' := fun y => (.rp (cGToken y))) h (by kernel_rfl) rfl rfl (fun y hy hc => vop_ia (l := p0) (f := cGToken) (g := cGToken) (k := .i64) hy (fun _ => rfl) (Eq.trans (b := ([((true && ((decide (0 < x6)) == true)) && (p1 == false)), ((true && ((decide (0 < x6)) == true)) && (p1 == false))] : List Bool).all id) (by kernel_rfl) (all_c hc (all_c hc rfl))) (by kernel_rfl) (by kernel_rfl)) ?_
   clear h; intro y4 h
   refine dgp_step (p := (true && ((decide (0 < x6)) == true))) (b := p1) (v' := (vGToken y4)) (by kernel_rfl) rfl rfl (fun hc => vg hc) ?_
   refine dgcall_step (p := (true && ((decide (0 < x6)) == true))) (b := p1) (m := sNeedsGap y3 y4) (dflt := default) (args := [(vGToken y3), (vGToken y4)]) (v' := (fun y => (vB y))) h (by kernel_rfl) (OK_sNeedsGap y3 y4) (fun hc => by kernel_rfl) (by kernel_rfl) (fun _ => rfl) (fun hc => (Eq.trans (b := ([((true && ((decide (0 < x6)) == true)) && (p1 == false)), ((true && ((decide (0 < x6)) == true)) && (p1 == false))] : List Bool).all id) (by kernel_rfl) (all_c hc (all_c hc rfl)))) ?_
   clear h; intro y5 h
   refine dgv_step (p := true) (b := (decide (0 < x6))) (m := some (if p1 = true then true else y5)) (dflt := default) (v' := fun y => (vB y)) h (by kernel_rfl) rfl rfl (fun y hy hc => vop_pickV hy (p := true) (q := ((true && ((decide (0 < x6)) == true)) && (p1 == false))) (Eq.trans (b := ([(true && ((decide (0 < x6)) == true))] : List Bool).all id) (by kernel_rfl) (all_c hc rfl)) (by kernel_rfl) (by kernel_rfl) (by kernel_rfl) (fun _ => rfl) (fun hb => gc_f hc hb)) ?_
   clear h; intro y6 h
   refine dv_step (m := some (if (decide (0 < x6)) = true then y6 else false)) (v' := fun y => (vB y)) h rfl rfl (fun y hy => vop_pickV hy (p := (true && ((decide (0 < x6)) == true))) (q := true) (by kernel_rfl) (by kernel_rfl) (by kernel_rfl) (by kernel_rfl) (fun hb => gc_t rfl hb) (fun _ => rfl)) ?_
   clear h; intro y7 h
   refine dnil_in (by kernel_rfl) (by kernel_rfl) (xi ?_)
   refine cd h (fun h => ?_) fun h => ?_
   refine oi ?_
   let a10 : St := a9.p [(37, (.osl 5 5 1 (x5.map cU8))), (36, (vB y7)), (35, (.ite (true && ((decide (0 < x6)) == true)) (vB y6))), (34, (.ite ((true && ((decide (0 < x6)) == true)) && (p1 == false)) (vB y5))), (33, (.ite ((true && ((decide (0 < x6)) == true)) && (p1 == false)) (vGToken y4))), (32, (.ite ((true && ((decide (0 < x6)) == true)) && (p1 == false)) (.rp (cGToken y4)))), (31, (.ite ((true && ((decide (0 < x6)) == true)) && (p1 == false)) (vI x6))), (30, (.ite ((true && ((decide (0 < x6)) == true)) && (p1 == false)) (.d (.sl 3 (p0.map cGToken))))), (29, (.ite ((true && ((decide (0 < x6)) == true)) && (p1 == false)) (vGToken y3))), (28, (.ite ((true && ((decide (0 < x6)) == true)) && (p1 == false)) (.rp (cGToken y3)))), (27, (.ite ((true && ((decide (0 < x6)) == true)) && (p1 == false)) (vI (IntKind.wrap .i64 (x6 - 1))))), (26, (.ite ((true && ((decide (0 < x6)) == true)) && (p1 == false)) (vI x6))), (25, (.ite ((true && ((decide (0 < x6)) == true)) && (p1 == false)) (.d (.sl 3 (p0.map cGToken))))), (24, (.ite (true && ((decide (0 < x6)) == true)) (vB p1))), (23, (.ite (true && ((decide (0 < x6)) == true)) (vB p1)))]
   refine st 1 a10 (bsl_step (l := ([32] : List Int)) (f := cU8) (g := cU8) (by kernel_rfl) (fun _ => rfl) (by kernel_rfl) ?_)
   refine app_step (t := 5) (l := x5) (m := ([32] : List Int)) (f := cU8) (S' := fun y => ⟨[(39, (.osl 39 5 1 (y.map cU8))), (38, (.osl 38 5 1 (([32] : List Int).map cU8))), (37, (.d (.sl 1 (x5.map cU8)))), (36, (vB y7)), (35, (.ite (true && ((decide (0 < x6)) == true)) (vB y6))), (34, (.ite ((true && ((decide (0 < x6)) == true)) && (p1 == false)) (vB y5))), (33, (.ite ((true && ((decide (0 < x6)) == true)) && (p1 == false)) (vGToken y4))), (32, (.ite ((true && ((decide (0 < x6)) == true)) && (p1 == false)) (.rp (cGToken y4)))), (31, (.ite ((true && ((decide (0 < x6)) == true)) && (p1 == false)) (vI x6))), (30, (.ite ((true && ((decide (0 < x6)) == true)) && (p1 == false)) (.d (.sl 3 (p0.map cGToken))))), (29, (.ite ((true && ((decide (0 < x6)) == true)) && (p1 == false)) (vGToken y3))), (28, (.ite ((true && ((decide (0 < x6)) == true)) && (p1 == false)) (.rp (cGToken y3)))), (27, (.ite ((true && ((decide (0 < x6)) == true)) && (p1 == false)) (vI (IntKind.wrap .i64 (x6 - 1))))), (26, (.ite ((true && ((decide (0 < x6)) == true)) && (p1 == false)) (vI x6))), (25, (.ite ((true && ((decide (0 < x6)) == true)) && (p1 == false)) (.d (.sl 3 (p0.map cGToken))))), (24, (.ite (true && ((decide (0 < x6)) == true)) (vB p1))), (23, (.ite (true && ((decide (0 < x6)) == true)) (vB p1))), (22, (vB (decide (0 < x6)))), (21, (vB (decide (0 < x6)))), (20, (vI x6)), (19, (vB (!y2))), (18, (vB y2)), (17, (vGToken y1)), (16, (.rp (cGToken y1))), (15, (vI x6)), (14, (.d (.sl 3 (p0.map cGToken)))), (11, (vB (decide (x6 < (ln p0))))), (10, (vI (ln p0))), (9, (.d (.sl 3 (p0.map cGToken)))), (8, (vI x6)), (0, (.d (.sl 3 (p0.map cGToken)))), (1, (vB p1)), (5, (.d (.sl 1 (x5.map cU8)))), (6, (vI x6))], []⟩) h (by kernel_rfl) (by kernel_rfl) (by kernel_rfl) (by kernel_rfl) (fun y => by kernel_rfl) ?_
   clear h; intro y8 h
   let a11 : St := ⟨[(5, (.osl 5 5 1 (y8.map cU8))), (39, (.d (.sl 1 (y8.map cU8)))), (38, (.osl 38 5 1 (([32] : List Int).map cU8))), (37, (.d (.sl 1 (x5.map cU8)))), (36, (vB y7)), (35, (.ite (true && ((decide (0 < x6)) == true)) (vB y6))), (34, (.ite ((true && ((decide (0 < x6)) == true)) && (p1 == false)) (vB y5))), (33, (.ite ((true && ((decide (0 < x6)) == true)) && (p1 == false)) (vGToken y4))), (32, (.ite ((true && ((decide (0 < x6)) == true)) && (p1 == false)) (.rp (cGToken y4)))), (31, (.ite ((true && ((decide (0 < x6)) == true)) && (p1 == false)) (vI x6))), (30, (.ite ((true && ((decide (0 < x6)) == true)) && (p1 == false)) (.d (.sl 3 (p0.map cGToken))))), (29, (.ite ((true && ((decide (0 < x6)) == true)) && (p1 == false)) (vGToken y3))), (28, (.ite ((true && ((decide (0 < x6)) == true)) && (p1 == false)) (.rp (cGToken y3)))), (27, (.ite ((true && ((decide (0 < x6)) == true)) && (p1 == false)) (vI (IntKind.wrap .i64 (x6 - 1))))), (26, (.ite ((true && ((decide (0 < x6)) == true)) && (p1 == false)) (vI x6))), (25, (.ite ((true && ((decide (0 < x6)) == true)) && (p1 == false)) (.d (.sl 3 (p0.map cGToken))))), (24, (.ite (true && ((decide (0 < x6)) == true)) (vB p1))), (23, (.ite (true && ((decide (0 < x6)) == true)) (vB p1))), (22, (vB (decide (0 < x6)))), (21, (vB (decide (0 < x6)))), (20, (vI x6)), (19, (vB (!y2))), (18, (vB y2)), (17, (vGToken y1)), (16, (.rp (cGToken y1))), (15, (vI x6)), (14, (.d (.sl 3 (p0.map cGToken)))), (11, (vB (decide (x6 < (ln p0))))), (10, (vI (ln p0))), (9, (.d (.sl 3 (p0.map cGToken)))), (8, (vI x6)), (0, (.d (.sl 3 (p0.map cGToken)))), (1, (vB p1)), (5, (.d (.sl 1 (x5.map cU8)))), (6, (vI x6))], []⟩
   exact st 1 a11 (ni (next_step (s' := stsL4Join_J1 p0 p1 x6 y8) (wr [(5, .old 5)] (es (es (eo 5 (es er_nil)))) br_nil) (OK_sL4Join_J1 x6 y8 _ h)))
   exact ki (next_step (s' := stsL4Join_J1 p0 p1 x6 x5) (wr [(5, .old 5)] (es (es (eo 5 (es er_nil)))) br_nil) (OK_sL4Join_J1 x6 x5 _ h))
   refine ei (te (te (bh (xi (si (so ?_))))))
   let a12 : St := a4.p [(47, (.osl 5 5 1 (x5.map cU8)))]
   refine st 1 a12 (ps (vI (ln x5)) (vln (sz := 1) (l := x5) (f := cU8)) ?_)
   let a13 : St := a12.p [(49, (vB (decide (2000 < (ln x5))))), (48, (vI (ln x5)))]
   refine st 1 a13 (nx ?_)
   refine cd h (fun h => ?_) fun h => ?_
   refine so ?_
   let a14 : St := a13.p [(4, (vS []))]
   refine st 1 a14 (nx (ri (tr ?_)))
   injection h with h; subst h
   exact r1 (v := (vS []))
   refine ki (xi (so ?_))
   let a15 : St := a13.p [(50, (.osl 5 5 1 (x5.map cU8)))]
   refine st 1 a15 (vs (fun (y : (List UInt8)) => (vS y)) h (fun y hy => vop_cbs (l := x5) hy (by kernel_rfl) (by kernel_rfl)) fun y10 h => ?_)
   let a16 : St := a15.p [(4, (vS y10)), (51, (vS y10))]
   refine st 1 a16 (nx (ri ?_))
   injection h with h; subst h
   exact r1 (v := (vS y10))
theorem OK_sL4Join_J1 (p0 : (List GToken)) (p1 : Bool) (x6 : Int) (x5_9 : (List Int)) (r : (List UInt8)) (h : sL4Join_J1 p0 p1 x6 x5_9 = some r) : avc Tryz.prog acsL4Join_J1 (qsL4Join_4 r) (stsL4Join_J1 p0 p1 x6 x5_9) := (OKs_sL4Join_J1 p0 p1).1 x6 x5_9 r h
theorem OK_sL4Join_L0 (p0 : (List GToken)) (p1 : Bool) (x5 : (List Int)) (x6 : Int) (r : (List UInt8)) (h : sL4Join_L0 p0 p1 x5 x6 = some r) : avc Tryz.prog acsL4Join_L0 (qsL4Join_1 r) (stsL4Join_L0 p0 p1 x5 x6) := (OKs_sL4Join_J1 p0 p1).2 x5 x6 r h
theorem OK_sL4Join (p0 : (List GToken)) (p1 : Bool) : FOk Tryz.prog 29 [(.d (.sl 3 (p0.map cGToken))), (vB p1)] (fun y => (vS y)) (sL4Join p0 p1) := by
 intro r h
 rw [sL4Join] at h
 refine aof trsL4Join ?_
 show avc Tryz.prog acsL4Join (qsL4Join _) ⟨[(0, (.d (.sl 3 (p0.map cGToken)))), (1, (vB p1))], []⟩
 delta acsL4Join
 refine so ?_
 let a0 : St := ⟨[(4, (vS [])), (0, (.d (.sl 3 (p0.map cGToken)))), (1, (vB p1))], []⟩
 refine st 1 a0 (nx (so (bsl_step (l := ([] : List Int)) (f := cU8) (g := cU8) (by kernel_rfl) (fun _ => rfl) (by kernel_rfl) ?_)))
 let a1 : St := a0.p [(5, (.osl 5 5 1 (([] : List Int).map cU8))), (7, (.d (.sl 1 (([] : List Int).map cU8))))]
 refine st 1 a1 (nx (si (so ?_)))
 let a2 : St := a1.p [(6, (vI 0))]
 exact st 1 a2 (nx (bi (loop_go (s' := stsL4Join_L0 p0 p1 ([] : List Int) 0) (wr [(5, .old 5)] (es (es (eo 5 (es er_nil)))) br_nil) (OK_sL4Join_L0 p0 p1 ([] : List Int) 0 _ h))))
theorem OK_sLoose (p0 : (List GToken)) : FOk Tryz.prog 10 [(.d (.sl 3 (p0.map cGToken)))] (fun y => (vS y)) (sLoose p0) := by
 intro r h
 rw [sLoose] at h
 refine aof trsLoose ?_
 show avc Tryz.prog acsLoose (qsLoose _) ⟨[(0, (.d (.sl 3 (p0.map cGToken))))], []⟩
 delta acsLoose
 refine so ?_
 let a0 : St := ⟨[(2, (vS [])), (0, (.d (.sl 3 (p0.map cGToken))))], []⟩
 refine st 1 a0 (nx (so ?_))
 let a1 : St := a0.p [(3, (.d (.sl 3 (p0.map cGToken))))]
 refine st 1 a1 (cs h (OK_sL4Join p0 true) fun y1 h => ?_)
 let a2 : St := a1.p [(2, (vS y1)), (4, (vS y1))]
 refine st 1 a2 (nx (ri ?_))
 injection h with h; subst h
 exact r1 (v := (vS y1))
theorem OKs_sSameTokens_L0 (p0 : (List GToken)) (p1 : (List GToken)) : (∀ (x5 : Int) (r : Bool), sSameTokens_L0 p0 p1 x5 = some r → avc Tryz.prog acsSameTokens_L0 (qsSameTokens_1 r) (stsSameTokens_L0 p0 p1 x5)) := by
 refine sSameTokens_L0.partial_correctness p0 p1 (fun x5 r => avc Tryz.prog acsSameTokens_L0 (qsSameTokens_1 r) (stsSameTokens_L0 p0 p1 x5)) ?_
 · intro F_sSameTokens_L0 OK_sSameTokens_L0 x5 r h
   delta acsSameTokens_L0
   refine loop_unroll (si (so ?_))
   let a6 : St := (stsSameTokens_L0 p0 p1 x5).p [(12, (.d (.sl 3 (p0.map cGToken)))), (11, (vI x5))]
   refine st 2 a6 (ps (vI (ln p0)) (vln (sz := 3) (l := p0) (f := cGToken)) ?_)
   let a7 : St := a6.p [(14, (vB (decide (x5 < (ln p0))))), (13, (vI (ln p0)))]
   refine st 1 a7 (nx ?_)
   refine cd h (fun h => ?_) fun h => ?_
   refine ki (xi (si (bi (si (dops_in ?_)))))
   let a8 : St := a7.p [(18, (vI x5)), (17, (.d (.sl 3 (p0.map cGToken))))]
   refine dsts_ok 2 (s' := a8) (by kernel_rfl) (dv_step (m := idx p0 x5) (v' := fun y => (.rp (cGToken y))) h rfl rfl (fun y hy => via (l := p0) (f := cGToken) (g := cGToken) (k := .i64) hy (fun _ => rfl)) ?_)
   clear h; intro y1 h
   let a9 : St := a8.p [(23, (vI x5)), (22, (.d (.sl 3 (p1.map cGToken)))), (21, (vI y1.kind)), (20, (.rp [(.i .i64 y1.kind), (.s (bs y1.text)), (.i .i64 y1.at_)])), (19, (.rp (cGToken y1)))]
   refine dsts_ok 4 (s' := a9) (by kernel_rfl) (dv_step (m := idx p1 x5) (v' := fun y => (.rp (cGToken y))) h rfl rfl (fun y hy => via (l := p1) (f := cGToken) (g := cGToken) (k := .i64) hy (fun _ => rfl)) ?_)
   clear h; intro y2 h
   let a10 : St := a9.p [(28, (vB (!decide (y1.kind = y2.kind)))), (27, (vB (!decide (y1.kind = y2.kind)))), (26, (vI y2.kind)), (25, (.rp [(.i .i64 y2.kind), (.s (bs y2.text)), (.i .i64 y2.at_)])), (24, (.rp (cGToken y2)))]
   refine dsts_ok 4 (s' := a10) (by kernel_rfl) (dgp_step (p := true) (b := (!decide (y1.kind = y2.kind))) (v' := (.d (.sl 3 (p0.map cGToken)))) (by kernel_rfl) rfl rfl (fun hc => vl) (dgp_step (p := true) (b := (!decide (y1.kind = y2.kind))) (v' := (vI x5)) (by kernel_rfl) rfl rfl (fun hc => vl) ?_))
   refine dgv_step (p := true) (b := (!decide (y1.kind = y2.kind))) (m := idx p0 x5) (dflt := default) (v' := fun y => (.rp (cGToken y))) h (by kernel_rfl) rfl rfl (fun y hy hc => vop_ia (l := p0) (f := cGToken) (g := cGToken) (k := .i64) hy (fun _ => rfl) (Eq.trans (b := ([(true && ((!decide (y1.kind = y2.kind)) == false)), (true && ((!decide (y1.kind = y2.kind)) == false))] : List Bool).all id) (by kernel_rfl) (all_c hc (all_c hc rfl))) (by kernel_rfl) (by kernel_rfl)) ?_
   clear h; intro y3 h
   refine dgp_step (p := true) (b := (!decide (y1.kind = y2.kind))) (v' := (.rp [(.s (bs y3.text)), (.i .i64 y3.at_)])) (by kernel_rfl) rfl rfl (fun hc => vg hc) (dgp_step (p := true) (b := (!decide (y1.kind = y2.kind))) (v' := (vS y3.text)) (by kernel_rfl) rfl rfl (fun hc => vg hc) ?_)
   refine dgp_step (p := true) (b := (!decide (y1.kind = y2.kind))) (v' := (.d (.sl 3 (p1.map cGToken)))) (by kernel_rfl) rfl rfl (fun hc => vl) (dgp_step (p := true) (b := (!decide (y1.kind = y2.kind))) (v' := (vI x5)) (by kernel_rfl) rfl rfl (fun hc => vl) ?_)
   refine dgv_step (p := true) (b := (!decide (y1.kind = y2.kind))) (m := idx p1 x5) (dflt := default) (v' := fun y => (.rp (cGToken y))) h (by kernel_rfl) rfl rfl (fun y hy hc => vop_ia (l := p1) (f := cGToken) (g := cGToken) (k := .i64) hy (fun _ => rfl) (Eq.trans (b := ([(true && ((!decide (y1.kind = y2.kind)) == false)), (true && ((!decide (y1.kind = y2.kind)) == false))] : List Bool).all id) (by kernel_rfl) (all_c hc (all_c hc rfl))) (by kernel_rfl) (by kernel_rfl)) ?_
   clear h; intro y4 h
   refine dgp_step (p := true) (b := (!decide (y1.kind = y2.kind))) (v' := (.rp [(.s (bs y4.text)), (.i .i64 y4.at_)])) (by kernel_rfl) rfl rfl (fun hc => vg hc) (dgp_step (p := true) (b := (!decide (y1.kind = y2.kind))) (v' := (vS y4.text)) (by kernel_rfl) rfl rfl (fun hc => vg hc) ?_)
   refine dgp_step (p := true) (b := (!decide (y1.kind = y2.kind))) (v' := (vB (!decide (y3.text = y4.text)))) (by kernel_rfl) rfl rfl (fun hc => vop_val1 (Eq.trans (b := ([(true && ((!decide (y1.kind = y2.kind)) == false)), (true && ((!decide (y1.kind = y2.kind)) == false))] : List Bool).all id) (by kernel_rfl) (all_c hc (all_c hc rfl))) (by kernel_rfl)) ?_
   refine dv_step (m := some (if (!decide (y1.kind = y2.kind)) = true then true else (!decide (y3.text = y4.text)))) (v' := fun y => (vB y)) h rfl rfl (fun y hy => vop_pickV hy (p := true) (q := (true && ((!decide (y1.kind = y2.kind)) == false))) (by kernel_rfl) (by kernel_rfl) (by kernel_rfl) (by kernel_rfl) (fun _ => rfl) (fun hb => gc_f rfl hb)) ?_
   clear h; intro y5 h
   refine dnil_in (by kernel_rfl) (by kernel_rfl) (xi ?_)
   refine cd h (fun h => ?_) fun h => ?_
   refine so ?_
   let a11 : St := a10.p [(4, (vB false)), (40, (vB y5)), (39, (.ite (true && ((!decide (y1.kind = y2.kind)) == false)) (vB (!decide (y3.text = y4.text))))), (38, (.ite (true && ((!decide (y1.kind = y2.kind)) == false)) (vS y4.text))), (37, (.ite (true && ((!decide (y1.kind = y2.kind)) == false)) (.rp [(.s (bs y4.text)), (.i .i64 y4.at_)]))), (36, (.ite (true && ((!decide (y1.kind = y2.kind)) == false)) (.rp (cGToken y4)))), (35, (.ite (true && ((!decide (y1.kind = y2.kind)) == false)) (vI x5))), (34, (.ite (true && ((!decide (y1.kind = y2.kind)) == false)) (.d (.sl 3 (p1.map cGToken))))), (33, (.ite (true && ((!decide (y1.kind = y2.kind)) == false)) (vS y3.text))), (32, (.ite (true && ((!decide (y1.kind = y2.kind)) == false)) (.rp [(.s (bs y3.text)), (.i .i64 y3.at_)]))), (31, (.ite (true && ((!decide (y1.kind = y2.kind)) == false)) (.rp (cGToken y3)))), (30, (.ite (true && ((!decide (y1.kind = y2.kind)) == false)) (vI x5))), (29, (.ite (true && ((!decide (y1.kind = y2.kind)) == false)) (.d (.sl 3 (p0.map cGToken)))))]
   refine st 1 a11 (nx (ri (br (tr (tr (br (tr ?_)))))))
   injection h with h; subst h
   exact r1 (v := (vB false))
   refine ki (bn (xi (oi ?_)))
   let a12 : St := a10.p [(5, (vI (IntKind.wrap .i64 (x5 + 1)))), (16, (vI (IntKind.wrap .i64 (x5 + 1)))), (15, (vI x5)), (40, (vB y5)), (39, (.ite (true && ((!decide (y1.kind = y2.kind)) == false)) (vB (!decide (y3.text = y4.text))))), (38, (.ite (true && ((!decide (y1.kind = y2.kind)) == false)) (vS y4.text))), (37, (.ite (true && ((!decide (y1.kind = y2.kind)) == false)) (.rp [(.s (bs y4.text)), (.i .i64 y4.at_)]))), (36, (.ite (true && ((!decide (y1.kind = y2.kind)) == false)) (.rp (cGToken y4)))), (35, (.ite (true && ((!decide (y1.kind = y2.kind)) == false)) (vI x5))), (34, (.ite (true && ((!decide (y1.kind = y2.kind)) == false)) (.d (.sl 3 (p1.map cGToken))))), (33, (.ite (true && ((!decide (y1.kind = y2.kind)) == false)) (vS y3.text))), (32, (.ite (true && ((!decide (y1.kind = y2.kind)) == false)) (.rp [(.s (bs y3.text)), (.i .i64 y3.at_)]))), (31, (.ite (true && ((!decide (y1.kind = y2.kind)) == false)) (.rp (cGToken y3)))), (30, (.ite (true && ((!decide (y1.kind = y2.kind)) == false)) (vI x5))), (29, (.ite (true && ((!decide (y1.kind = y2.kind)) == false)) (.d (.sl 3 (p0.map cGToken)))))]
   exact st 3 a12 (ni (loop_back (s' := stsSameTokens_L0 p0 p1 (IntKind.wrap .i64 (x5 + 1))) (wr [] (es (es (es er_nil))) br_nil) (OK_sSameTokens_L0 (IntKind.wrap .i64 (x5 + 1)) _ h)))
   refine ei (te (te (bh (xi (so ?_)))))
   let a13 : St := a7.p [(4, (vB true))]
   refine st 1 a13 (nx (ri ?_))
   injection h with h; subst h
   exact r1 (v := (vB true))
theorem OK_sSameTokens_L0 (p0 : (List GToken)) (p1 : (List GToken)) (x5 : Int) (r : Bool) (h : sSameTokens_L0 p0 p1 x5 = some r) : avc Tryz.prog acsSameTokens_L0 (qsSameTokens_1 r) (stsSameTokens_L0 p0 p1 x5) := (OKs_sSameTokens_L0 p0 p1) x5 r h
theorem OK_sSameTokens (p0 : (List GToken)) (p1 : (List GToken)) : FOk Tryz.prog 19 [(.d (.sl 3 (p0.map cGToken))), (.d (.sl 3 (p1.map cGToken)))] (fun y => (vB y)) (sSameTokens p0 p1) := by
 intro r h
 rw [sSameTokens] at h
 refine aof trsSameTokens ?_
 show avc Tryz.prog acsSameTokens (qsSameTokens _) ⟨[(0, (.d (.sl 3 (p0.map cGToken)))), (1, (.d (.sl 3 (p1.map cGToken))))], []⟩
 delta acsSameTokens
 refine so ?_
 let a0 : St := ⟨[(4, (vB false)), (0, (.d (.sl 3 (p0.map cGToken)))), (1, (.d (.sl 3 (p1.map cGToken))))], []⟩
 refine st 1 a0 (nx (si (so ?_)))
 let a1 : St := a0.p [(6, (.d (.sl 3 (p0.map cGToken))))]
 refine st 1 a1 (ps (vI (ln p0)) (vln (sz := 3) (l := p0) (f := cGToken)) ?_)
 let a2 : St := a1.p [(8, (.d (.sl 3 (p1.map cGToken)))), (7, (vI (ln p0)))]
 refine st 1 a2 (ps (vI (ln p1)) (vln (sz := 3) (l := p1) (f := cGToken)) ?_)
 let a3 : St := a2.p [(10, (vB (!decide ((ln p0) = (ln p1))))), (9, (vI (ln p1)))]
 refine st 1 a3 (nx ?_)
 refine cd h (fun h => ?_) fun h => ?_
 refine so ?_
 let a4 : St := a3.p [(4, (vB false))]
 refine st 1 a4 (nx (ri (tr ?_)))
 injection h with h; subst h
 exact r1 (v := (vB false))
 refine ki (xi (si (so ?_)))
 let a5 : St := a3.p [(5, (vI 0))]
 exact st 1 a5 (nx (bi (loop_go (s' := stsSameTokens_L0 p0 p1 0) (wr [] (es (es (es er_nil))) br_nil) (OK_sSameTokens_L0 p0 p1 0 _ h))))
theorem OK_sSpaced (p0 : (List GToken)) : FOk Tryz.prog 14 [(.d (.sl 3 (p0.map cGToken)))] (fun y => (vS y)) (sSpaced p0) := by
 intro r h
 rw [sSpaced] at h
 refine aof trsSpaced ?_
 show avc Tryz.prog acsSpaced (qsSpaced _) ⟨[(0, (.d (.sl 3 (p0.map cGToken))))], []⟩
 delta acsSpaced
 refine so ?_
 let a0 : St := ⟨[(2, (vS [])), (0, (.d (.sl 3 (p0.map cGToken))))], []⟩
 refine st 1 a0 (nx (so ?_))
 let a1 : St := a0.p [(3, (.d (.sl 3 (p0.map cGToken))))]
 refine st 1 a1 (cs h (OK_sL4Join p0 false) fun y1 h => ?_)
 let a2 : St := a1.p [(2, (vS y1)), (4, (vS y1))]
 refine st 1 a2 (nx (ri ?_))
 injection h with h; subst h
 exact r1 (v := (vS y1))
theorem OK_wBig (p0 : (List Int)) : FOk Tryz.prog 16 [(.d (.sl 1 (p0.map cU8)))] (fun y => (vB y)) (wBig p0) := by
 intro r h
 rw [wBig] at h
 refine aof trwBig ?_
 show avc Tryz.prog acwBig (qwBig _) ⟨[(0, (.d (.sl 1 (p0.map cU8))))], []⟩
 delta acwBig
 refine so ?_
 let a0 : St := ⟨[(2, (vB false)), (0, (.d (.sl 1 (p0.map cU8))))], []⟩
 refine st 1 a0 (nx (so ?_))
 let a1 : St := a0.p [(3, (.d (.sl 1 (p0.map cU8))))]
 refine st 1 a1 (ps (vI (ln p0)) (vln (sz := 1) (l := p0) (f := cU8)) ?_)
 let a2 : St := a1.p [(2, (vB (decide (1048576 < (ln p0))))), (5, (vB (decide (1048576 < (ln p0))))), (4, (vI (ln p0)))]
 refine st 2 a2 (nx (ri ?_))
 injection h with h; subst h
 exact r1 (v := (vB (decide (1048576 < (ln p0)))))
theorem OK_wFnSpaced (p0 : (List Int)) : FOk Tryz.prog 5 [(.d (.sl 1 (p0.map cU8)))] (fun y => (vB y)) (wFnSpaced p0) := by
 intro r h
 rw [wFnSpaced] at h
 refine aof trwFnSpaced ?_
 show avc Tryz.prog acwFnSpaced (qwFnSpaced _) ⟨[(0, (.d (.sl 1 (p0.map cU8))))], []⟩
 delta acwFnSpaced
 refine so ?_
 let a0 : St := ⟨[(2, (vB false)), (0, (.d (.sl 1 (p0.map cU8))))], []⟩
 refine st 1 a0 (nx (si (so ?_)))
 let a1 : St := a0.p [(9, (.d (.sl 1 (p0.map cU8))))]
 refine st 1 a1 (cs h (OK_wBig p0) fun y1 h => (nx ?_))
 refine cd h (fun h => ?_) fun h => ?_
 refine so ?_
 let a2 : St := a1.p [(2, (vB true)), (10, (vB y1))]
 refine st 1 a2 (nx (ri (tr ?_)))
 injection h with h; subst h
 exact r1 (v := (vB true))
 refine ki (xi (so ?_))
 let a3 : St := a1.p [(11, (.d (.sl 1 (p0.map cU8)))), (10, (vB y1))]
 refine st 1 a3 (callg_step ⟨[], [], [], [], [], [(2000000, 12)], [], [12], []⟩ (m := sDrawSpaced p0) (S' := fun (y : (List GToken)) => ⟨(12, (.osl 12 53 3 (y.map cGToken))) :: a3.env, a3.bx⟩) h (OK_sDrawSpaced p0) (by kernel_rfl) (by kernel_rfl) (by kernel_rfl) (by kernel_rfl) (fun y => by kernel_rfl) (fun y => by kernel_rfl) ?_)
 clear h; intro y2 h
 let a4 : St := a3.p [(3, (.osl 3 53 3 (y2.map cGToken))), (12, (.d (.sl 3 (y2.map cGToken))))]
 refine st 1 a4 (nx (so ?_))
 let a5 : St := a4.p [(13, (.osl 3 53 3 (y2.map cGToken)))]
 refine st 1 a5 (cs h (OK_iSpaced y2) fun y3 h => ?_)
 let a6 : St := a5.p [(4, (vS y3)), (14, (vS y3))]
 refine st 1 a6 (nx (si (so ?_)))
 let a7 : St := a6.p [(15, (.osl 3 53 3 (y2.map cGToken)))]
 refine st 1 a7 (cs h (OK_sSpaced y2) fun y4 h => ?_)
 let a8 : St := a7.p [(17, (vB (decide (y4 = [])))), (16, (vS y4))]
 refine st 1 a8 (nx ?_)
 refine cd h (fun h => ?_) fun h => ?_
 refine so ?_
 let a9 : St := a8.p [(2, (vB (decide (y3 = [])))), (19, (vB (decide (y3 = [])))), (18, (vS y3))]
 refine st 3 a9 (nx (ri (tr ?_)))
 injection h with h; subst h
 exact r1 (v := (vB (decide (y3 = []))))
 refine ki (xi (so ?_))
 let a10 : St := a8.p [(21, (vS y3))]
 refine st 1 a10 (callg_step ⟨[], [], [], [], [], [(2000000, 5041000)], [], [5041000], []⟩ (m := iLex y3) (S' := fun (y : (List GToken) × Int) => ⟨(22, (.tup [(.osl 5041000 53 3 (y.1.map cGToken)), (vI y.2)])) :: a10.env, a10.bx⟩) h (OK_iLex y3) (by kernel_rfl) (by kernel_rfl) (by kernel_rfl) (by kernel_rfl) (fun y => by kernel_rfl) (fun y => by kernel_rfl) ?_)
 clear h; intro y5 h
 let a11 : St := a10.p [(6, (vI y5.2)), (5, (.osl 5 53 3 (y5.1.map cGToken))), (24, (vI y5.2)), (23, (.d (.sl 3 (y5.1.map cGToken)))), (20, (.tup [(.d (.sl 3 (y5.1.map cGToken))), (vI y5.2)])), (22, (.tup [(.d (.sl 3 (y5.1.map cGToken))), (vI y5.2)]))]
 refine st 5 a11 (nx (so ?_))
 let a12 : St := a11.p [(26, (.osl 3 53 3 (y2.map cGToken)))]
 refine st 1 a12 (cs h (OK_iLoose y2) fun y6 h => (callg_step ⟨[], [], [], [], [], [(2000000, 5051000)], [], [5051000], []⟩ (m := iLex y6) (S' := fun (y : (List GToken) × Int) => ⟨(28, (.tup [(.osl 5051000 53 3 (y.1.map cGToken)), (vI y.2)])) :: (27, (vS y6)) :: a12.env, a12.bx⟩) h (OK_iLex y6) (by kernel_rfl) (by kernel_rfl) (by kernel_rfl) (by kernel_rfl) (fun y => by kernel_rfl) (fun y => by kernel_rfl) ?_))
 clear h; intro y7 h
 let a13 : St := a12.p [(8, (vI y7.2)), (7, (.osl 7 53 3 (y7.1.map cGToken))), (30, (vI y7.2)), (29, (.d (.sl 3 (y7.1.map cGToken)))), (25, (.tup [(.d (.sl 3 (y7.1.map cGToken))), (vI y7.2)])), (28, (.tup [(.d (.sl 3 (y7.1.map cGToken))), (vI y7.2)])), (27, (vS y6))]
 refine st 5 a13 (nx (so ?_))
 let a14 : St := a13.p [(33, (vB (decide (y5.2 = (-1))))), (32, (vB (decide (y5.2 = (-1))))), (31, (vI y5.2))]
 refine st 3 a14 (gp true (decide (y5.2 = (-1))) (.osl 5 53 3 (y5.1.map cGToken)) (fun hc => vl) (gp true (decide (y5.2 = (-1))) (.osl 3 53 3 (y2.map cGToken)) (fun hc => vl) ?_))
 refine gcall_step (p := true) (b := (decide (y5.2 = (-1)))) (m := sSameTokens y5.1 y2) (dflt := default) (args := [(.d (.sl 3 (y5.1.map cGToken))), (.d (.sl 3 (y2.map cGToken)))]) (v' := (fun y => (vB y))) h (by kernel_rfl) (OK_sSameTokens y5.1 y2) (fun hc => by kernel_rfl) (by kernel_rfl) (fun _ => rfl) (fun hc => (Eq.trans (b := ([(true && ((decide (y5.2 = (-1))) == true)), (true && ((decide (y5.2 = (-1))) == true))] : List Bool).all id) (by kernel_rfl) (all_c hc (all_c hc rfl)))) ?_
 clear h; intro y8 h
 refine vs (fun (y : Bool) => (vB y)) h (fun y hy => vop_pickV hy (p := (true && ((decide (y5.2 = (-1))) == true))) (q := true) (by kernel_rfl) (by kernel_rfl) (by kernel_rfl) (by kernel_rfl) (fun hb => gc_t rfl hb) (fun _ => rfl)) fun y9 h => ?_
 let a15 : St := a14.p [(38, (vB y9)), (37, (vB y9)), (36, (.ite (true && ((decide (y5.2 = (-1))) == true)) (vB y8))), (35, (.ite (true && ((decide (y5.2 = (-1))) == true)) (.osl 3 53 3 (y2.map cGToken)))), (34, (.ite (true && ((decide (y5.2 = (-1))) == true)) (.osl 5 53 3 (y5.1.map cGToken))))]
 refine st 1 a15 (gp true y9 (.osl 3 53 3 (y2.map cGToken)) (fun hc => vl) (gcall_step (p := true) (b := y9) (m := sLoose y2) (dflt := default) (args := [(.d (.sl 3 (y2.map cGToken)))]) (v' := (fun y => (vS y))) h (by kernel_rfl) (OK_sLoose y2) (fun hc => by kernel_rfl) (by kernel_rfl) (fun _ => rfl) (fun hc => (Eq.trans (b := ([(true && (y9 == true))] : List Bool).all id) (by kernel_rfl) (all_c hc rfl))) ?_))
 clear h; intro y10 h
 refine gp true y9 (vB (decide (y10 = []))) (fun hc => vg hc) (gp true y9 (vB (decide (y10 = []))) (fun hc => vg hc) (gp (true && (y9 == true)) (decide (y10 = [])) (vI y7.2) (fun hc => vl) ?_))
 refine gp (true && (y9 == true)) (decide (y10 = [])) (vB (decide (y7.2 = (-1)))) (fun hc => vop_val1 (Eq.trans (b := ([((true && (y9 == true)) && ((decide (y10 = [])) == false))] : List Bool).all id) (by kernel_rfl) (all_c hc rfl)) (by kernel_rfl)) ?_
 refine gp (true && (y9 == true)) (decide (y10 = [])) (vB (decide (y7.2 = (-1)))) (fun hc => vop_val1 (Eq.trans (b := ([((true && (y9 == true)) && ((decide (y10 = [])) == false))] : List Bool).all id) (by kernel_rfl) (all_c hc rfl)) (by kernel_rfl)) (gp ((true && (y9 == true)) && ((decide (y10 = [])) == false)) (decide (y7.2 = (-1))) (.osl 7 53 3 (y7.1.map cGToken)) (fun hc => vl) ?_)
 refine gp ((true && (y9 == true)) && ((decide (y10 = [])) == false)) (decide (y7.2 = (-1))) (.osl 3 53 3 (y2.map cGToken)) (fun hc => vl) ?_
 refine gcall_step (p := ((true && (y9 == true)) && ((decide (y10 = [])) == false))) (b := (decide (y7.2 = (-1)))) (m := sSameTokens y7.1 y2) (dflt := default) (args := [(.d (.sl 3 (y7.1.map cGToken))), (.d (.sl 3 (y2.map cGToken)))]) (v' := (fun y => (vB y))) h (by kernel_rfl) (OK_sSameTokens y7.1 y2) (fun hc => by kernel_rfl) (by kernel_rfl) (fun _ => rfl) (fun hc => (Eq.trans (b := ([(((true && (y9 == true)) && ((decide (y10 = [])) == false)) && ((decide (y7.2 = (-1))) == true)), (((true && (y9 == true)) && ((decide (y10 = [])) == false)) && ((decide (y7.2 = (-1))) == true))] : List Bool).all id) (by kernel_rfl) (all_c hc (all_c hc rfl)))) ?_
 clear h; intro y11 h
 refine gv (true && (y9 == true)) (decide (y10 = [])) (fun (y : Bool) => (vB y)) h (fun y hy hc => vop_pickV hy (p := (((true && (y9 == true)) && ((decide (y10 = [])) == false)) && ((decide (y7.2 = (-1))) == true))) (q := true) (Eq.trans (b := ([((true && (y9 == true)) && ((decide (y10 = [])) == false))] : List Bool).all id) (by kernel_rfl) (all_c hc rfl)) (by kernel_rfl) (by kernel_rfl) (by kernel_rfl) (fun hb => gc_t hc hb) (fun _ => rfl)) fun y12 h => ?_
 refine gv true y9 (fun (y : Bool) => (vB y)) h (fun y hy hc => vop_pickV hy (p := true) (q := ((true && (y9 == true)) && ((decide (y10 = [])) == false))) (Eq.trans (b := ([(true && (y9 == true))] : List Bool).all id) (by kernel_rfl) (all_c hc rfl)) (by kernel_rfl) (by kernel_rfl) (by kernel_rfl) (fun _ => rfl) (fun hb => gc_f hc hb)) fun y13 h => ?_
 refine vs (fun (y : Bool) => (vB y)) h (fun y hy => vop_pickV hy (p := (true && (y9 == true))) (q := true) (by kernel_rfl) (by kernel_rfl) (by kernel_rfl) (by kernel_rfl) (fun hb => gc_t rfl hb) (fun _ => rfl)) fun y14 h => ?_
 let a16 : St := a15.p [(52, (vB y14)), (51, (vB y14)), (50, (.ite (gT y9) (vB y13))), (49, (.ite ((gT y9) && ((decide (y10 = [])) == false)) (vB y12))), (48, (.ite (((gT y9) && ((decide (y10 = [])) == false)) && ((decide (y7.2 = (-1))) == true)) (vB y11))), (47, (.ite (((gT y9) && ((decide (y10 = [])) == false)) && ((decide (y7.2 = (-1))) == true)) (.osl 3 53 3 (y2.map cGToken)))), (46, (.ite (((gT y9) && ((decide (y10 = [])) == false)) && ((decide (y7.2 = (-1))) == true)) (.osl 7 53 3 (y7.1.map cGToken)))), (45, (.ite ((gT y9) && ((decide (y10 = [])) == false)) (vB (decide (y7.2 = (-1)))))), (44, (.ite ((gT y9) && ((decide (y10 = [])) == false)) (vB (decide (y7.2 = (-1)))))), (43, (.ite ((gT y9) && ((decide (y10 = [])) == false)) (vI y7.2))), (42, (.ite (gT y9) (vB (decide (y10 = []))))), (41, (.ite (gT y9) (vB (decide (y10 = []))))), (40, (.ite (gT y9) (vS y10))), (39, (.ite (gT y9) (.osl 3 53 3 (y2.map cGToken))))]
 refine st 1 a16 (gp true y14 (vS y3) (fun hc => vl) (gp true y14 (vI (ln y3)) (fun hc => vg hc) (gp true y14 (vB (decide ((ln y3) ≤ 2000))) (fun hc => vg hc) (vs (fun (y : Bool) => (vB y)) h (fun y hy => vop_pickV hy (p := (true && (y14 == true))) (q := true) (by kernel_rfl) (by kernel_rfl) (by kernel_rfl) (by kernel_rfl) (fun hb => gc_t rfl hb) (fun _ => rfl)) fun y15 h => ?_))))
 let a17 : St := a16.p [(2, (vB y15)), (56, (vB y15)), (55, (.ite (gT y14) (vB (decide ((ln y3) ≤ 2000))))), (54, (.ite (gT y14) (vI (ln y3)))), (53, (.ite (gT y14) (vS y3)))]
 refine st 1 a17 (nx (ri ?_))
 injection h with h; subst h
 exact r1 (v := (vB y15))
theorem law_wFnSpaced (hp : ∀ (x0 : (List Int)) (_ : (okL okU8) x0), wFnSpaced x0 = some true) (ls : List (List D)) (hw : WtA Tryz.prog [29] ls) (hok : ∀ l ∈ ls, ∀ x ∈ l, OkD x) : ACalls Tryz.prog 5 (argsV Tryz.prog [29] ls) [] fun x _ => x = .d (.b true) := by
  rcases hw with _ | ⟨h0, hw⟩
  cases hw
  obtain ⟨x0, rfl⟩ := de29 h0
  have a0 : argV Tryz.prog 29 ((cSl 1 cU8) x0) = (.d (.sl 1 (x0.map cU8))) := by kernel_rfl
  have k0 : ∀ d ∈ (cSl 1 cU8) x0, OkD d := hok _ (by simp)
  simp only [argsV, a0]
  exact OK_wFnSpaced x0 true (hp x0 (ko_l _ (fun y hy => ko_u8 _ hy) k0))
end Go.Proofs.YtechmmnknmdacaaGreatDoor
